/- The reference's taker (Next, Text) beside a row that grows. -/
import Derived.Test.YtkmhmehofipehaaGreatDoorPz10
import Derived.Test.YtkmhmehofipehaaGreatDoorPz3
import Derived.Test.YtkmhmehofipehaaGreatDoorPz6
import Derived.Test.YtkmhmehofipehaaGreatDoorPz11
import Derived.Test.YtkmhmehofipehaaGreatDoorPz13
namespace Go.Proofs.YtkmhmehofipehaaGreatDoor
set_option linter.unusedVariables false
open Go.RowKit
/-- bytes are not touched where another block, that holds no bytes, turns -/
theorem SeesB.butTypedB {w w' : World} {A : Option Addr} {l : List UInt8} {q : Nat} {cs : Array Value} {t : TypeId} {fr : Nat × Nat} (h : SeesB w A l) (hb : But (Only q) w w') (hq : w.heap[q]? = some (.cells cs t fr)) (hcs : ∀ (j : Nat) (z : Int), cs[j]? ≠ some (.int .u8 z)) : SeesB w' A l := by
  intro i u hu
  obtain ⟨a, ha, hc⟩ := h i u hu
  have hlt := block_lt_of_cell hc
  refine ⟨a, ha, (World.cell?_of_block (w := w) (hb.block _ hlt ?_)).trans hc⟩
  rw [addr_block]
  intro hbq
  have hb' : a.block = q := hbq
  have hcc := hc
  unfold World.cell? at hcc
  rw [addr_block, hb', hq] at hcc
  have hcc2 : cs[(a.add i).off]? = some u := by
    dsimp only at hcc
    split at hcc
    · cases hcc
    · exact hcc
  rw [List.getElem?_map] at hu
  cases h5 : l[i]? with
  | none => rw [h5] at hu; cases hu
  | some b =>
    rw [h5] at hu
    injection hu with hu
    exact hcs _ _ (hcc2.trans (by rw [← hu]; rfl))
theorem rkB_row (A : Option Addr) (n c : Nat) (x y : Int) : ∀ (j : Nat) (z : Int), (#[Value.slice A n c, .int .i64 x, .int .i64 y] : Array Value)[j]? ≠ some (.int .u8 z) := by
  intro j z h
  match j with
  | 0 => simp at h
  | 1 => simp at h
  | 2 => simp at h
  | j + 3 => simp at h
/-- block g is the reference's taker with this error, at this place of these bytes, which lie below a block -/
def RkB (w : World) (g : Nat) (err : Int) (p : Nat) (l : List UInt8) (B : Nat) : Prop :=
  ∃ (A : Option Addr) (c : Nat), w.heap[g]? = some (.cells #[.slice A l.length c, .int .i64 (p : Int), .int .i64 err] 97 (0, 0)) ∧ SeesB w A l ∧ l.length ≤ c ∧ c ≤ maxLen ∧ p ≤ l.length ∧ ∀ a, A = some a → a.block < B
theorem drewNB {B : Nat} {a w : World} (h : Below B a w) (n : Nat) : Below B a (w.drewN n) := ⟨h.os, h.tape, h.output, h.size, h.block⟩
/-- what is read of a taker -/
theorem RkB.cells {w : World} {g : Nat} {err : Int} {p : Nat} {l : List UInt8} {B : Nat} (h : RkB w g err p l B) :
    ∃ (A : Option Addr) (c : Nat), w.cell? ⟨g, 0, none⟩ = some (.slice A l.length c) ∧ w.cell? ⟨g, 1, none⟩ = some (.int .i64 (p : Int)) ∧ w.cell? ⟨g, 2, none⟩ = some (.int .i64 err) ∧ SeesB w A l ∧ l.length ≤ c ∧ c ≤ maxLen ∧ p ≤ l.length ∧ ∀ i, w.frozen? ⟨g, i, none⟩ = false := by
  obtain ⟨A, c, hg, hs, h1, h2, h3, _⟩ := h
  exact ⟨A, c, by rw [cell_of_row _ _ _ _ _ _ hg]; rfl, by rw [cell_of_row _ _ _ _ _ _ hg]; rfl, by rw [cell_of_row _ _ _ _ _ _ hg]; rfl, hs, h1, h2, h3, fun i => frozen_of_row _ _ _ _ _ hg⟩
theorem RkB.setErr {w : World} {g : Nat} {err : Int} {p : Nat} {l : List UInt8} {B : Nat} (h : RkB w g err p l B) (e : Int) : RkB (w.setCell ⟨g, 2, none⟩ (.int .i64 e)) g e p l B ∧ But (Only g) w (w.setCell ⟨g, 2, none⟩ (.int .i64 e)) := by
  obtain ⟨A, c, hg, hs, h1, h2, h3, h4⟩ := h
  have hb : But (Only g) w (w.setCell ⟨g, 2, none⟩ (.int .i64 e)) := ⟨rfl, rfl, rfl, by simp [World.setCell], fun b _ hb => heap_setCell_other w _ b _ (fun h => hb h)⟩
  exact ⟨⟨A, c, heap_setCell_same w g 2 _ _ _ hg, SeesB.butTypedB hs hb hg (rkB_row _ _ _ _ _), h1, h2, h3, h4⟩, hb⟩
theorem RkB.setAt {w : World} {g : Nat} {err : Int} {p : Nat} {l : List UInt8} {B : Nat} (h : RkB w g err p l B) (q : Nat) (hq : q ≤ l.length) : RkB (w.setCell ⟨g, 1, none⟩ (.int .i64 (q : Int))) g err q l B ∧ But (Only g) w (w.setCell ⟨g, 1, none⟩ (.int .i64 (q : Int))) := by
  obtain ⟨A, c, hg, hs, h1, h2, h3, h4⟩ := h
  have hb : But (Only g) w (w.setCell ⟨g, 1, none⟩ (.int .i64 (q : Int))) := ⟨rfl, rfl, rfl, by simp [World.setCell], fun b _ hb => heap_setCell_other w _ b _ (fun h => hb h)⟩
  exact ⟨⟨A, c, heap_setCell_same w g 1 _ _ _ hg, SeesB.butTypedB hs hb hg (rkB_row _ _ _ _ _), h1, h2, hq, h4⟩, hb⟩
theorem RkB.below {w w' : World} {g : Nat} {err : Int} {p : Nat} {l : List UInt8} {B : Nat} (h : RkB w g err p l B) (hb : Below w.heap.size w w') : RkB w' g err p l B := by
  obtain ⟨A, c, hg, hs, h1, h2, h3, h4⟩ := h
  exact ⟨A, c, (hb.block g (Array.getElem?_eq_some_iff.1 hg).1).trans hg, hs.below hb, h1, h2, h3, h4⟩
/-- what is made above the block leaves the taker -/
theorem RkB.far {w w' : World} {g : Nat} {err : Int} {p : Nat} {l : List UInt8} {B : Nat} (h : RkB w g err p l B) (hg : g < B) (hb : Below B w w') : RkB w' g err p l B := by
  obtain ⟨A, c, hr, hs, h1, h2, h3, h4⟩ := h
  refine ⟨A, c, (hb.block g hg).trans hr, ?_, h1, h2, h3, h4⟩
  intro i v hv
  obtain ⟨a, ha, hc⟩ := hs i v hv
  exact ⟨a, ha, (World.cell?_of_block (w := w) (hb.block _ (by rw [addr_block]; exact h4 a ha))).trans hc⟩
def RNextPostB (w : World) (g : Nat) (l : List UInt8) (B : Nat) (r : (Int × Nat) × List UInt8) (e : Ending) (w' : World) : Prop :=
  ∃ (A : Option Addr) (c : Nat), e = .returned (.slice A r.2.length c) ∧ SeesB w' A r.2 ∧ RkB w' g r.1.1 r.1.2 l B ∧ But (Only g) w w'
/-- what the reference's taker gives of the next n bytes, of a field or not -/
def nextRB (s : Int × Nat) (l : List UInt8) (n : Int) (b : Bool) : (Int × Nat) × List UInt8 := if b = true then takeU s l n else takeRaw s l n
set_option maxHeartbeats 2000000 in
theorem rnextB_ok (g : Nat) (p n : Nat) (b : Bool) (l : List UInt8) (B : Nat) (w : World) (h : RkB w g 0 p l B) (hlen : l.length ≤ 140737488355328) (hn : n ≤ 9223372036854775807) (hb : b = true → 1 ≤ n ∧ n ≤ 8) :
    Calls Tryz.prog 39 #[.pointer (some ⟨g, 0, none⟩), .int .i64 (n : Int), .bool b] w (RNextPostB w g l B (tnext p l n)) := by
  obtain ⟨A, c, hc0, hc1, hc2, hs, h1, h2, h3, hf⟩ := h.cells
  have hf1 := hf 1
  have hf2 := hf 2
  have d0 : decide ((n : Int) < 0) = false := decide_eq_false (by omega)
  have HB : b = false ∨ (b = true ∧ 1 ≤ n ∧ n ≤ 8) := by
    cases b with
    | false => exact .inl rfl
    | true => exact .inr ⟨rfl, hb rfl⟩
  clear hb
  by_cases hlt : l.length - p < n
  · rw [tnext, if_pos hlt]
    have d1 : decide ((l.length : Int) - p < n) = true := by simp; omega
    have key : ∀ w0, Below w.heap.size w w0 → RNextPostB w g l B ((10, p), []) (.returned (.slice none 0 0)) (w0.setCell ⟨g, 2, none⟩ (.int .i64 10)) := by
      intro w0 hdr
      have hT := (h.below hdr).setErr 10
      exact ⟨none, 0, rfl, Sees.nil _ _, hT.1, (But.of_below (R := Only g) hdr).trans hT.2 (fun n h => .inl h)⟩
    rcases HB with rfl | ⟨rfl, hb1, hb2⟩
    · skip
      go_enter Tryz.func39, Tryz.ntmps39
      go_wp2_with fail
      go_quiet (fail)
      go_wp2_with fail
      go_ret
      exact key _ (drewNB (Below.refl _ _) nq)
    · skip
      have d2 : decide ((n : Int) < 1) = false := decide_eq_false (by omega)
      have d3 : decide (8 < (n : Int)) = false := decide_eq_false (by omega)
      go_enter Tryz.func39, Tryz.ntmps39
      go_wp2_with fail
      go_quiet (fail)
      go_wp2_with fail
      go_ret
      exact key _ (drewNB (Below.refl _ _) nq)
  · rw [tnext, if_neg hlt]
    have d1 : decide ((n : Int) > (l.length : Int) - p) = false := by simp; omega
    have hw2 : wrap64 ((p : Int) + n) = ((p + n : Nat) : Int) := by unfold wrap64; unfold maxLen at h2; omega
    rcases HB with rfl | ⟨rfl, hb1, hb2⟩
    · skip
      go_enter Tryz.func39, Tryz.ntmps39
      go_wp2_with fail
      go_quiet (fail)
      go_wp2_with fail
      have hdr : Below w.heap.size w (w.drewN nq) := drewNB (Below.refl _ _) nq
      have hT := (h.below hdr).setAt (p + n) (by omega)
      rw [show ((p + n : Nat) : Int) = (p : Int) + n by omega] at hT
      generalize (w.drewN nq).setCell ⟨g, 1, none⟩ (.int .i64 ((p : Int) + n)) = w1 at *
      obtain ⟨hT1, hT2⟩ := hT
      clear hc0 hc1 hc2 hs hf hf1 hf2
      have hBT : But (Only g) w w1 := (But.of_below (R := Only g) hdr).trans hT2 (fun n h => .inl h)
      clear hT2 hdr
      obtain ⟨A, c, hc0, hc1, hc2, hs, h1, h2, h3, hf⟩ := hT1.cells
      rw [show ((p + n : Nat) : Int) = (p : Int) + n by omega] at hc1
      have b0 : 0 ≤ (p : Int) := by omega
      have b1 : (p : Int) ≤ p + n := by omega
      have b2 : (p : Int) + n ≤ c := by omega
      go_quiet (fail)
      go_wp2_with fail
      · have hl2 : (l.drop p).take n = [] := by rw [List.drop_eq_nil_of_le (by omega), List.take_nil]
        have hn0 : n = 0 := by omega
        have hd1 : Below w1.heap.size w1 (w1.drewN nq) := drewNB (Below.refl _ _) nq
        rw [hl2]
        refine bodyPost_ret (results_tmp rfl _ _ _) rfl ?_
        refine ⟨A, 0, ?_, Sees.nil _ _, hT1.below hd1, hBT.trans (But.of_below (R := fun _ => False) hd1) (fun n h => h.elim)⟩
        subst hn0; rfl
      · have hlen2 : ((l.drop p).take n).length = n := by simp; omega
        have hd1 : Below w1.heap.size w1 (w1.drewN nq) := drewNB (Below.refl _ _) nq
        have hfin : RNextPostB w g l B ((0, p + n), (l.drop p).take n) (.returned (.slice (A.map (·.add p)) n (c - p))) (w1.drewN nq) :=
          ⟨_, _, by rw [hlen2], SeesB.cutTo (SeesB.below hs hd1) p n, hT1.below hd1, hBT.trans (But.of_below (R := fun _ => False) hd1) (fun n h => h.elim)⟩
        go_ret
        exact hfin
    · skip
      have d2 : decide ((n : Int) < 1) = false := decide_eq_false (by omega)
      have d3 : decide (8 < (n : Int)) = false := decide_eq_false (by omega)
      go_enter Tryz.func39, Tryz.ntmps39
      go_wp2_with fail
      go_quiet (fail)
      go_wp2_with fail
      have hdr : Below w.heap.size w (w.drewN nq) := drewNB (Below.refl _ _) nq
      have hT := (h.below hdr).setAt (p + n) (by omega)
      rw [show ((p + n : Nat) : Int) = (p : Int) + n by omega] at hT
      generalize (w.drewN nq).setCell ⟨g, 1, none⟩ (.int .i64 ((p : Int) + n)) = w1 at *
      obtain ⟨hT1, hT2⟩ := hT
      clear hc0 hc1 hc2 hs hf hf1 hf2
      have hBT : But (Only g) w w1 := (But.of_below (R := Only g) hdr).trans hT2 (fun n h => .inl h)
      clear hT2 hdr
      obtain ⟨A, c, hc0, hc1, hc2, hs, h1, h2, h3, hf⟩ := hT1.cells
      rw [show ((p + n : Nat) : Int) = (p : Int) + n by omega] at hc1
      have b0 : 0 ≤ (p : Int) := by omega
      have b1 : (p : Int) ≤ p + n := by omega
      have b2 : (p : Int) + n ≤ c := by omega
      go_quiet (fail)
      go_wp2_with fail
      · have hlen2 : ((l.drop p).take n).length = n := by simp; omega
        have hd1 : Below w1.heap.size w1 (w1.drewN nq) := drewNB (Below.refl _ _) nq
        have hfin : RNextPostB w g l B ((0, p + n), (l.drop p).take n) (.returned (.slice (A.map (·.add p)) n (c - p))) (w1.drewN nq) :=
          ⟨_, _, by rw [hlen2], SeesB.cutTo (SeesB.below hs hd1) p n, hT1.below hd1, hBT.trans (But.of_below (R := fun _ => False) hd1) (fun n h => h.elim)⟩
        go_ret
        rw [show p + n - p = n by omega]
        exact hfin
set_option maxHeartbeats 1000000 in
theorem rnextB_err (g : Nat) (err : Int) (p : Nat) (n : Int) (b : Bool) (l : List UInt8) (B : Nat) (w : World) (h : RkB w g err p l B) (he : err ≠ 0) :
    Calls Tryz.prog 39 #[.pointer (some ⟨g, 0, none⟩), .int .i64 n, .bool b] w (RNextPostB w g l B ((err, p), [])) := by
  obtain ⟨A, c, hc0, hc1, hc2, hs, h1, h2, h3, hf⟩ := h.cells
  have de : (err != 0) = true := by simpa using he
  have hfin : RNextPostB w g l B ((err, p), []) (.returned (.slice none 0 0)) w := ⟨none, 0, rfl, Sees.nil _ _, h, But.refl _ _⟩
  go_enter Tryz.func39, Tryz.ntmps39
  go_wp2_with fail
  go_ret
  exact hfin
set_option maxHeartbeats 1000000 in
theorem rnextB_arg (g : Nat) (p : Nat) (n : Int) (b : Bool) (l : List UInt8) (B : Nat) (w : World) (h : RkB w g 0 p l B) (hn : n < 0 ∨ (b = true ∧ (n < 1 ∨ 8 < n))) :
    Calls Tryz.prog 39 #[.pointer (some ⟨g, 0, none⟩), .int .i64 n, .bool b] w (RNextPostB w g l B ((1, p), [])) := by
  obtain ⟨A, c, hc0, hc1, hc2, hs, h1, h2, h3, hf⟩ := h.cells
  have hf2 := hf 2
  have hT := h.setErr 1
  have hfin : RNextPostB w g l B ((1, p), []) (.returned (.slice none 0 0)) (w.setCell ⟨g, 2, none⟩ (.int .i64 1)) := ⟨none, 0, rfl, Sees.nil _ _, hT.1, hT.2⟩
  by_cases h0 : n < 0
  · have d0 : decide (n < 0) = true := decide_eq_true h0
    go_enter Tryz.func39, Tryz.ntmps39
    go_wp2_with fail
    go_ret
    exact hfin
  · have d0 : decide (n < 0) = false := decide_eq_false h0
    have hb : b = true := by
      rcases hn with h | ⟨h, _⟩
      · exact absurd h h0
      · exact h
    subst hb
    by_cases h1 : n < 1
    · have d1 : decide (n < 1) = true := decide_eq_true h1
      go_enter Tryz.func39, Tryz.ntmps39
      go_wp2_with fail
      go_ret
      exact hfin
    · have d1 : decide (n < 1) = false := decide_eq_false h1
      have d2 : decide (8 < n) = true := decide_eq_true (by omega)
      go_enter Tryz.func39, Tryz.ntmps39
      go_wp2_with fail
      go_ret
      exact hfin
theorem rnextB_any (g : Nat) (err : Int) (p : Nat) (n : Int) (b : Bool) (l : List UInt8) (B : Nat) (w : World) (h : RkB w g err p l B) (hlen : l.length ≤ 140737488355328) (hn : n ≤ 9223372036854775807) :
    Calls Tryz.prog 39 #[.pointer (some ⟨g, 0, none⟩), .int .i64 n, .bool b] w (RNextPostB w g l B (nextRB (err, p) l n b)) := by
  by_cases he : err = 0
  · subst he
    by_cases hn' : n < 0 ∨ (b = true ∧ (n < 1 ∨ 8 < n))
    · have hh : nextRB (0, p) l n b = ((1, p), []) := by
        unfold nextRB
        cases b with
        | true =>
          rw [if_pos rfl]
          unfold takeU
          rw [if_neg (by simp), if_pos (by rcases hn' with h | ⟨_, h⟩ <;> omega)]
        | false =>
          rw [if_neg (by simp)]
          unfold takeRaw
          rw [if_neg (by simp), if_pos (by rcases hn' with h | ⟨h, _⟩; exact h; cases h)]
      rw [hh]
      exact rnextB_arg g p n b l B w h hn'
    · have h0 : 0 ≤ n := by omega
      obtain ⟨N, rfl⟩ := Int.eq_ofNat_of_zero_le h0
      have hh : nextRB (0, p) l (N : Int) b = tnext p l N := by
        unfold nextRB
        cases b with
        | true =>
          rw [if_pos rfl]
          unfold takeU
          rw [if_neg (by simp), if_neg (by intro hc; exact hn' (.inr ⟨rfl, hc⟩))]
          rfl
        | false =>
          rw [if_neg (by simp)]
          unfold takeRaw
          rw [if_neg (by simp), if_neg (by omega)]
          rfl
      rw [hh]
      exact rnextB_ok g p N b l B w h hlen (by omega) (fun hb => by
        constructor
        · have : ¬ ((N : Int) < 1 ∨ 8 < (N : Int)) := fun hc => hn' (.inr ⟨hb, hc⟩)
          omega
        · have : ¬ ((N : Int) < 1 ∨ 8 < (N : Int)) := fun hc => hn' (.inr ⟨hb, hc⟩)
          omega)
  · have hh : nextRB (err, p) l n b = ((err, p), []) := by
      unfold nextRB
      cases b with
      | true => rw [if_pos rfl]; unfold takeU; rw [if_pos he]
      | false => rw [if_neg (by simp)]; unfold takeRaw; rw [if_pos he]
    rw [hh]
    exact rnextB_err g err p n b l B w h he
def RTextPostB (w : World) (g : Nat) (l : List UInt8) (B : Nat) (r : (Int × Nat) × List UInt8) (e : Ending) (w' : World) : Prop :=
  e = .returned (.string ⟨r.2.toArray⟩) ∧ RkB w' g r.1.1 r.1.2 l B ∧ But (Only g) w w'
theorem nextRB_true (s : Int × Nat) (l : List UInt8) (n : Int) : nextRB s l n true = takeU s l n := by unfold nextRB; rw [if_pos rfl]
theorem nextRB_false (s : Int × Nat) (l : List UInt8) (n : Int) : nextRB s l n false = takeRaw s l n := by unfold nextRB; rw [if_neg (by simp)]
set_option maxHeartbeats 4000000 in
theorem rtktextB_any (g : Nat) (err : Int) (p : Nat) (n : Int) (l : List UInt8) (B : Nat) (w : World) (h : RkB w g err p l B) (hlen : l.length ≤ 140737488355328) (hn : n ≤ 9223372036854775807) :
    Calls Tryz.prog 38 #[.pointer (some ⟨g, 0, none⟩), .int .i64 n] w (RTextPostB w g l B (textR (err, p) l n)) := by
  obtain ⟨A, c, hc0, hc1, hc2, _, _, _, hpl, hf⟩ := h.cells
  have hN := rnextB_any g err p n true l B w h hlen hn
  rw [nextRB_true] at hN
  have h8 := takeU_len (err, p) l n
  by_cases hu : (takeU (err, p) l n).1.1 ≠ 0
  · have hub := takeU_bad hu
    have htx : textR (err, p) l n = (((takeU (err, p) l n).1.1, p), []) := by
      unfold textR
      by_cases he : err = 0
      · subst he
        rw [if_neg (by simp), if_pos hu]
      · rw [if_pos he]
        unfold takeU
        rw [if_pos he]
    rw [htx]
    obtain ⟨E, hE⟩ : ∃ E, E = (takeU (err, p) l n).1.1 := ⟨_, rfl⟩
    rw [← hE] at hub hu ⊢
    rw [hub] at hN
    have HN := hid hN
    have dE : (E == 0) = false := by simpa using hu
    have dE2 : (E != 0) = true := by simpa using hu
    have dE3 : decide (E = 0) = false := decide_eq_false hu
    clear hN hub hE hu htx h8
    go_enter Tryz.func38, Tryz.ntmps38
    go_wp2_with fail
    refine HN.out.mono ?_
    rintro e w1 ⟨A1, c1, rfl, hs1, hT, hB⟩
    clear hc0 hc1 hc2 hf
    obtain ⟨A2, c2, hc0, hc1, hc2, _, _, _, _, hf⟩ := hT.cells
    have hf1 := hf 1
    go_wp2_with fail
    refine (rvalue_any A1 c1 [] w1 hs1 (by simp)).mono ?_
    rintro e w2 ⟨rfl, rfl⟩
    go_wp2_with fail
    go_quiet (fail)
    have hdr : Below w1.heap.size w1 (w1.drewN nq) := ⟨rfl, rfl, rfl, Nat.le_refl _, fun _ _ => rfl⟩
    have hTd := (hT.below hdr).setAt p hpl
    have hcd : (w1.drewN nq).cell? ⟨g, 2, none⟩ = some (.int .i64 E) := hc2
    have hcd1 : (w1.drewN nq).cell? ⟨g, 1, none⟩ = some (.int .i64 (p : Int)) := hc1
    have hfd : (w1.drewN nq).frozen? ⟨g, 1, none⟩ = false := hf1
    have hBB : But (Only g) w (w1.drewN nq) := hB.trans (But.of_below (R := fun _ => False) hdr) (fun n h => h.elim)
    clear hc0 hc1 hc2 hf hf1 hT hB hdr
    generalize w1.drewN nq = w2 at *
    go_wp2_with fail
    go_ret
    exact ⟨rfl, hTd.1, hBB.trans hTd.2 (fun n h => .inl h)⟩
  have he0 : err = 0 := by
    by_cases he : err = 0
    · exact he
    · exfalso
      apply hu
      unfold takeU
      rw [if_pos he]
      exact he
  subst he0
  obtain ⟨_, hn1, hn8, hr, hle⟩ := takeU_good (s := (0, p)) (l := l) (n := n) (by omega)
  obtain ⟨N, rfl⟩ := Int.eq_ofNat_of_zero_le (show 0 ≤ n by omega)
  rw [textR, if_neg (by simp), if_neg hu]
  rw [show ((N : Int)).toNat = N from rfl] at hr hle
  rw [hr] at hN h8 ⊢
  clear hu hr
  simp only at hle h8 ⊢
  obtain ⟨x, hx⟩ : ∃ x, x = (l.drop p).take N := ⟨_, rfl⟩
  rw [← hx] at hN h8 ⊢
  clear hx
  have hpN : p + N ≤ l.length := by omega
  have hv8 : valLE x < 18446744073709551616 := by
    have := valLE_lt x
    have := Nat.pow_le_pow_right (show 0 < 256 by omega) h8
    omega
  have HV := hid (fun (A1 : Option Addr) (c1 : Nat) (w1 : World) (hs1 : SeesB w1 A1 x) => rvalue_any A1 c1 _ w1 hs1 h8)
  have HN := hid hN
  obtain ⟨V, hV⟩ : ∃ V, V = valLE x := ⟨_, rfl⟩
  rw [← hV] at HV hv8 ⊢
  clear hN hV hle
  by_cases hlt : l.length - (p + N) < V
  · rw [if_pos hlt]
    have hd : decide (((l.length : Int) - ((p + N : Nat) : Int)) < (V : Int)) = true := by simp; omega
    have hd2 : decide (((l.length : Int) - ((p : Int) + (N : Int))) < (V : Int)) = true := by simp; omega
    have hg1 : 0 ≤ (l.length : Int) - ((p : Int) + (N : Int)) := by omega
    clear hlt
    go_enter Tryz.func38, Tryz.ntmps38
    go_wp2_with fail
    refine HN.out.mono ?_
    rintro e w1 ⟨A1, c1, rfl, hs1, hT, hB⟩
    clear hc0 hc1 hc2 hf
    obtain ⟨A2, c2, hc0, hc1, hc2, _, _, _, _, hf⟩ := hT.cells
    have hf1 := hf 1
    have hf2 := hf 2
    go_wp2_with fail
    refine (HV.out A1 c1 w1 hs1).mono ?_
    rintro e w2 ⟨rfl, rfl⟩
    go_wp2_with fail
    go_quiet (fail)
    have hdr : Below w1.heap.size w1 (w1.drewN nq) := ⟨rfl, rfl, rfl, Nat.le_refl _, fun _ _ => rfl⟩
    have hTd := (hT.below hdr).setErr 10
    have hTe := hTd.1.setAt p (by omega)
    obtain ⟨A3, c3, k0, k1, k2, _, _, _, _, kf⟩ := hTd.1.cells
    have kf1 := kf 1
    have hcd : (w1.drewN nq).cell? ⟨g, 2, none⟩ = some (.int .i64 0) := hc2
    have hfd : (w1.drewN nq).frozen? ⟨g, 2, none⟩ = false := hf2
    have hBB : But (Only g) w (w1.drewN nq) := hB.trans (But.of_below (R := fun _ => False) hdr) (fun n h => h.elim)
    clear hc0 hc1 hc2 hf hf1 hf2 hT hB hdr hs1
    generalize w1.drewN nq = w2 at *
    go_wp2_with fail
    go_ret
    exact ⟨rfl, hTe.1, (hBB.trans hTd.2 (fun n h => .inl h)).trans hTe.2 (fun n h => .inl h)⟩
  · rw [if_neg hlt]
    have hd : decide (((l.length : Int) - ((p + N : Nat) : Int)) < (V : Int)) = false := by simp; omega
    have hd2 : decide (((l.length : Int) - ((p : Int) + (N : Int))) < (V : Int)) = false := by simp; omega
    have hg1 : 0 ≤ (l.length : Int) - ((p : Int) + (N : Int)) := by omega
    have hVl : V ≤ l.length := by omega
    have HTN := hid (show nextRB (0, p + N) l (V : Int) false = ((0, p + N + V), (l.drop (p + N)).take V) by
      rw [nextRB_false]; unfold takeRaw; rw [if_neg (by simp), if_neg (by omega)]; unfold tnext; rw [show ((V : Int)).toNat = V from rfl, if_neg hlt])
    generalize (l.drop (p + N)).take V = s at *
    clear hlt
    go_enter Tryz.func38, Tryz.ntmps38
    go_wp2_with fail
    refine HN.out.mono ?_
    rintro e w1 ⟨A1, c1, rfl, hs1, hT, hB⟩
    clear hc0 hc1 hc2 hf
    obtain ⟨A2, c2, hc0, hc1, hc2, _, _, _, _, hf⟩ := hT.cells
    go_wp2_with fail
    refine (HV.out A1 c1 w1 hs1).mono ?_
    rintro e w2 ⟨rfl, rfl⟩
    go_wp2_with fail
    go_quiet (fail)
    have hdr : Below w1.heap.size w1 (w1.drewN nq) := ⟨rfl, rfl, rfl, Nat.le_refl _, fun _ _ => rfl⟩
    have hTd := hT.below hdr
    have HN2 := hid (rnextB_any g 0 (p + N) (V : Int) false l B (w1.drewN nq) hTd hlen (by omega))
    rw [HTN.out] at HN2
    have hcd : (w1.drewN nq).cell? ⟨g, 2, none⟩ = some (.int .i64 0) := hc2
    have hBB : But (Only g) w (w1.drewN nq) := hB.trans (But.of_below (R := fun _ => False) hdr) (fun n h => h.elim)
    clear hc0 hc1 hc2 hf hT hB hdr hTd hs1
    generalize w1.drewN nq = w2 at *
    go_wp2_with fail
    refine HN2.out.mono ?_
    rintro e w3 ⟨A3, c3, rfl, hs3, hT3, hB3⟩
    have hcv := conv_bs A3 c3 _ w3 hs3
    have hfin : RTextPostB w g l B ((0, p + N + V), s) (.returned (.string ⟨s.toArray⟩)) w3 := ⟨rfl, hT3, hBB.trans hB3 (fun n h => .inl h)⟩
    go_wp2_with fail
    go_ret
    exact hfin
end Go.Proofs.YtkmhmehofipehaaGreatDoor
/- Tags read: the reference's Get. -/
namespace Go.Proofs.YtkmhmehofipehaaGreatDoor
set_option linter.unusedVariables false
open Go.RowKit
/-- the reference takes all, also behind an error -/
def loopR (b : List UInt8) : Nat → Int × Nat → List TagV → (Int × Nat) × List TagV
  | 0, s, acc => (s, acc)
  | n + 1, s, acc => loopR b n (stepG b s).1 (acc ++ [(stepG b s).2])
theorem loopR_err (b : List UInt8) : ∀ (n : Nat) (s : Int × Nat) (acc : List TagV), s.1 ≠ 0 → (loopR b n s acc).1 = s
  | 0, s, acc, h => rfl
  | n + 1, s, acc, h => by
    rw [loopR, stepG_err b s h]
    exact loopR_err b n s _ h
theorem fin_same (b : List UInt8) : ∀ (n : Nat) (s : Int × Nat) (acc : List TagV), s.1 = 0 → finG b (loopR b n s acc) = finG b (loopG b n s acc)
  | 0, s, acc, h => rfl
  | n + 1, s, acc, h => by
    rw [loopR, loopG]
    by_cases he : (stepG b s).1.1 ≠ 0
    · rw [if_pos he, finG_err b _ (by rw [loopR_err b n _ _ he]; exact he), finG_err b _ he, loopR_err b n _ _ he]
    · rw [if_neg he]
      exact fin_same b n _ _ (by simpa using he)
def rGet (l : List UInt8) : Int × Nat × List TagV := if startsG l = false then (31, 0, []) else if l.length < 3 then (10, 0, []) else finG l (loopR l (countG l) (0, 3) [])
theorem rGet_is (l : List UInt8) : rGet l = getG l := by
  unfold rGet getG
  rw [fin_same l _ (0, 3) [] rfl]
set_option maxRecDepth 20000 in
set_option maxHeartbeats 2000000 in
theorem rtagget_kind (A : Option Addr) (c : Nat) (l : List UInt8) (w : World) (hl : SeesB w A l) (hlen : l.length ≤ 140737488355328) (hst : startsG l = false) :
    Calls Tryz.prog 18 #[.slice A l.length c] w (GetGPost w (31, 0, [])) := by
  match l, hl, hst, hlen with
  | [], hl, hst, _ => simp [startsG] at hst
  | [x], hl, hst, _ =>
    obtain ⟨a, rfl, ca⟩ := hl.at (show 0 < ([x] : List UInt8).length by simp)
    have ca0 : w.cell? a = some (.int .u8 (x.toNat : Int)) := ca
    have d : ((x.toNat : Int) != 84) = true := by
      have h1 : ((x.toNat : Int) == 84) = (x == 84) := tbyte_is x 84 (by omega)
      have h2 : (x == 84) = false := by simpa [startsG] using hst
      rw [bne, h1, h2]; rfl
    clear hst
    go_enter Tryz.func18, Tryz.ntmps18
    go_wp2_with fail
    refine bodyPost_ret (results_tmp3 rfl _ _ _) rfl ?_
    exact get_bad 31 (Below.refl _ _)
  | x :: y :: t, hl, hst, hlen =>
    obtain ⟨a, rfl, ca⟩ := hl.at (show 0 < (x :: y :: t).length by simp)
    have ca0 : w.cell? a = some (.int .u8 (x.toNat : Int)) := ca
    have ca1 : w.cell? { block := a.block, off := a.off + 1 } = some (.int .u8 (y.toNat : Int)) := by
      obtain ⟨b, hb, cb⟩ := hl.at (show 1 < (x :: y :: t).length by simp)
      injection hb with hb
      subst hb
      exact cb
    have hq : (((x.toNat : Int) == 84) && ((y.toNat : Int) == 71)) = false := by rw [show ((x.toNat : Int) == 84) = (x == 84) from tbyte_is x 84 (by omega), show ((y.toNat : Int) == 71) = (y == 71) from tbyte_is y 71 (by omega)]; simpa [startsG] using hst
    obtain ⟨m, hm⟩ : ∃ m, m = (x :: y :: t).length := ⟨_, rfl⟩
    have hm2 : 2 ≤ m := by rw [hm]; simp
    rw [← hm]
    clear hm hst
    have d1 : decide (0 < (m : Int)) = true := decide_eq_true (by omega)
    have d2 : decide (1 < (m : Int)) = true := decide_eq_true (by omega)
    have b0 : (0 : Int) < m := by omega
    have b1 : (1 : Int) < m := by omega
    cases hd : ((x.toNat : Int) == 84) with
    | false =>
      have e : ((x.toNat : Int) != 84) = true := by rw [bne, hd]; rfl
      clear hq hd
      go_enter Tryz.func18, Tryz.ntmps18
      go_wp2_with fail
      refine bodyPost_ret (results_tmp3 rfl _ _ _) rfl ?_
      exact get_bad 31 (Below.refl _ _)
    | true =>
      have e : ((x.toNat : Int) != 84) = false := by rw [bne, hd]; rfl
      rw [hd, Bool.true_and] at hq
      have e1 : ((y.toNat : Int) != 71) = true := by rw [bne, hq]; rfl
      clear hq hd
      go_enter Tryz.func18, Tryz.ntmps18
      go_wp2_with fail
      refine bodyPost_ret (results_tmp3 rfl _ _ _) rfl ?_
      exact get_bad 31 (Below.refl _ _)
set_option maxRecDepth 20000 in
set_option maxHeartbeats 2000000 in
theorem rtagget_few (A : Option Addr) (c : Nat) (l : List UInt8) (w : World) (hl : SeesB w A l) (hst : startsG l = true) (h3 : l.length < 3) :
    Calls Tryz.prog 18 #[.slice A l.length c] w (GetGPost w (10, 0, [])) := by
  match l, hl, hst, h3 with
  | [], hl, hst, _ =>
    go_enter Tryz.func18, Tryz.ntmps18
    go_wp2_with fail
    refine bodyPost_ret (results_tmp3 rfl _ _ _) rfl ?_
    exact get_bad 10 (Below.refl _ _)
  | [x], hl, hst, _ =>
    obtain ⟨a, rfl, ca⟩ := hl.at (show 0 < ([x] : List UInt8).length by simp)
    have ca0 : w.cell? a = some (.int .u8 (x.toNat : Int)) := ca
    have d : ((x.toNat : Int) != 84) = false := by
      have h1 : ((x.toNat : Int) == 84) = (x == 84) := tbyte_is x 84 (by omega)
      have h2 : (x == 84) = true := by simpa [startsG] using hst
      rw [bne, h1, h2]; rfl
    clear hst
    go_enter Tryz.func18, Tryz.ntmps18
    go_wp2_with fail
    refine bodyPost_ret (results_tmp3 rfl _ _ _) rfl ?_
    exact get_bad 10 (Below.refl _ _)
  | [x, y], hl, hst, _ =>
    obtain ⟨a, rfl, ca⟩ := hl.at (show 0 < [x, y].length by simp)
    have ca0 : w.cell? a = some (.int .u8 (x.toNat : Int)) := ca
    have ca1 : w.cell? { block := a.block, off := a.off + 1 } = some (.int .u8 (y.toNat : Int)) := by
      obtain ⟨b, hb, cb⟩ := hl.at (show 1 < [x, y].length by simp)
      injection hb with hb
      subst hb
      exact cb
    have hq : (((x.toNat : Int) == 84) && ((y.toNat : Int) == 71)) = true := by rw [show ((x.toNat : Int) == 84) = (x == 84) from tbyte_is x 84 (by omega), show ((y.toNat : Int) == 71) = (y == 71) from tbyte_is y 71 (by omega)]; simpa [startsG] using hst
    rw [Bool.and_eq_true] at hq
    have e : ((x.toNat : Int) != 84) = false := by rw [bne, hq.1]; rfl
    have e1 : ((y.toNat : Int) != 71) = false := by rw [bne, hq.2]; rfl
    clear hst hq
    go_enter Tryz.func18, Tryz.ntmps18
    go_wp2_with fail
    refine bodyPost_ret (results_tmp3 rfl _ _ _) rfl ?_
    exact get_bad 10 (Below.refl _ _)
  | x :: y :: z :: t, _, _, h3 => exact absurd h3 (by simp)
set_option maxRecDepth 20000 in
set_option maxHeartbeats 4000000 in
theorem rtagget_long (A : Option Addr) (c : Nat) (l : List UInt8) (w : World) (hl : SeesB w A l) (hc : l.length ≤ c) (hcm : c ≤ maxLen) (hst : startsG l = true) (hlen : l.length ≤ 140737488355328) (h3 : 3 ≤ l.length) :
    Calls Tryz.prog 18 #[.slice A l.length c] w (GetGPost w (rGet l)) := by
  obtain ⟨a, rfl, ca⟩ := hl.at (show 0 < l.length by omega)
  obtain ⟨x, hx⟩ : ∃ x, x = l[0] := ⟨_, rfl⟩
  obtain ⟨y, hy⟩ : ∃ y, y = l[1] := ⟨_, rfl⟩
  have ca0 : w.cell? a = some (.int .u8 (x.toNat : Int)) := by rw [hx]; exact ca
  have ca1 : w.cell? { block := a.block, off := a.off + 1 } = some (.int .u8 (y.toNat : Int)) := by
    obtain ⟨b, hb, cb⟩ := hl.at (show 1 < l.length by omega)
    injection hb with hb
    subst hb
    rw [hy]
    exact cb
  have hab : a.block < w.heap.size := by
    have := block_lt_of_cell ca0
    exact this
  have hq : (((x.toNat : Int) == 84) && ((y.toNat : Int) == 71)) = true := by
    rw [show ((x.toNat : Int) == 84) = (x == 84) from tbyte_is x 84 (by omega), show ((y.toNat : Int) == 71) = (y == 71) from tbyte_is y 71 (by omega)]
    unfold startsG at hst
    rw [List.getElem?_eq_getElem (show 0 < l.length by omega), List.getElem?_eq_getElem (show 1 < l.length by omega)] at hst
    rw [hx, hy]
    exact hst
  rw [Bool.and_eq_true] at hq
  have e : ((x.toNat : Int) != 84) = false := by rw [bne, hq.1]; rfl
  have e1 : ((y.toNat : Int) != 71) = false := by rw [bne, hq.2]; rfl
  have d1 : decide (0 < (l.length : Int)) = true := decide_eq_true (by omega)
  have d2 : decide (1 < (l.length : Int)) = true := decide_eq_true (by omega)
  have d3 : decide ((l.length : Int) < 3) = false := decide_eq_false (by omega)
  have b0 : (0 : Int) < l.length := by omega
  have b1 : (1 : Int) < l.length := by omega
  have b2 : (2 : Int) < l.length := by omega
  obtain ⟨N, hN⟩ : ∃ N, N = countG l := ⟨_, rfl⟩
  have hNl : N < 256 := by
    rw [hN]
    have h1 := valLE_lt ((l.drop 2).take 1)
    have h2 : ((l.drop 2).take 1).length = 1 := by simp; omega
    rw [h2] at h1
    exact h1
  have hcN : ∀ W, Below w.heap.size w W → W.cell? { block := a.block, off := a.off + 2 } = some (.int .u8 (N : Int)) := by
    intro W hW
    obtain ⟨b, hb, cb⟩ := (hl.below hW).at (show 2 < l.length by omega)
    injection hb with hb
    subst hb
    have h2 : (l[2]).toNat = N := by
      rw [hN]
      unfold countG
      rw [List.drop_eq_getElem_cons (show 2 < l.length by omega), List.take_succ_cons, List.take_zero]
      show (l[2]).toNat = (l[2]).toNat + 256 * 0
      omega
    rw [← h2]
    exact cb
  obtain ⟨R, hR⟩ : ∃ R, R = loopR l N (0, 3) [] := ⟨_, rfl⟩
  have HG := hid (show rGet l = finG l R by unfold rGet; rw [if_neg (by rw [hst]; simp), if_neg (by omega), hR, hN])
  have HRL := hid hR.symm
  have HCN := hid hcN
  clear hR hN hcN hx hy hq hst ca
  have hb1 : Below w.heap.size w (w.alloc (.cells #[.slice (some a) l.length c, .int .i64 3, .int .i64 0] 97)) := (Below.refl _ w).alloc (Nat.le_refl _) _
  have hrow := heap_alloc_new w (.cells #[.slice (some a) l.length c, .int .i64 3, .int .i64 0] 97)
  have hT : RkB (w.alloc (.cells #[.slice (some a) l.length c, .int .i64 3, .int .i64 0] 97)) w.heap.size 0 3 l (w.heap.size + 1) := ⟨some a, c, hrow, hl.below hb1, hc, hcm, h3, fun b hb => by injection hb with hb; subst hb; omega⟩
  have hBw : w.heap.size + 1 ≤ (w.alloc (.cells #[.slice (some a) l.length c, .int .i64 3, .int .i64 0] 97)).heap.size := (Array.getElem?_eq_some_iff.1 hrow).1
  clear hrow
  go_enter Tryz.func18, Tryz.ntmps18
  go_wp2_with fail
  generalize w.alloc (.cells #[.slice (some a) l.length c, .int .i64 3, .int .i64 0] 97) = w1 at *
  obtain ⟨g, hg⟩ : ∃ g, g = w.heap.size := ⟨_, rfl⟩
  obtain ⟨B, hB⟩ : ∃ B, B = w.heap.size + 1 := ⟨_, rfl⟩
  have hwg : w.heap.size ≤ g := by omega
  have hgB : g < B := by omega
  have hwB : w.heap.size ≤ B := by omega
  rw [← hB, ← hg] at hT
  rw [← hB] at hBw
  rw [← hg]
  clear hg hB ca0 ca1
  go_loopw [6, 7, 8, 9] (fun x i k v wr => ∃ (n : Nat) (s : Int × Nat) (L : List TagV) (A' : Option Addr) (c' : Nat), n ≤ N ∧ i = .int .i64 n ∧ x = .slice A' L.length c' ∧ NewT B wr L A' c' ∧ RkB wr g s.1 s.2 l B ∧ Below w.heap.size w wr ∧ B ≤ wr.heap.size ∧ L.length ≤ n ∧ Brief L ∧ Hid (loopR l (N - n) s L = R)) (fun _ i _ _ _ => N - (intOf i).toNat)
  case atStart => exact ⟨0, (0, 3), [], none, 0, by omega, rfl, rfl, own_nil _ _ _ _, hT, hb1, hBw, by simp, fun x hx => by simp at hx, HRL⟩
  case round =>
    clear hT hb1 hBw HRL
    obtain ⟨n, s, L, A', c', hn, rfl, rfl, hown, hT, hbw, hBw, hLn, hLb, hE⟩ := hrel
    have cN := HCN.out wr hbw
    by_cases hlt : n < N
    · have hd : decide ((n : Int) < (N : Int)) = true := decide_eq_true (by omega)
      obtain ⟨m, hm⟩ : ∃ m, N - n = m + 1 := ⟨N - n - 1, by omega⟩
      have hE2 := hE.out
      rw [hm, loopR] at hE2
      unfold stepG at hE2
      obtain ⟨e0, p0⟩ := s
      simp only at hT
      have HX1 := rtktextB_any g e0 p0 1 l B wr hT hlen (by omega)
      obtain ⟨⟨⟨e1, p1⟩, x1⟩, hr1⟩ : ∃ r, textR (e0, p0) l 1 = r := ⟨_, rfl⟩
      rw [hr1] at HX1 hE2
      simp only at hE2
      obtain ⟨⟨⟨e2, p2⟩, x2⟩, hr2⟩ : ∃ r, textR (e1, p1) l 2 = r := ⟨_, rfl⟩
      rw [hr2] at hE2
      simp only at hE2
      have HX2 := hid (fun W (h : RkB W g e1 p1 l B) => by
        have h1 := rtktextB_any g e1 p1 2 l B W h hlen (by omega)
        rw [hr2] at h1
        exact h1)
      have HX1' := hid HX1
      have hx1l : x1.length ≤ l.length := by have := textR_len (e0, p0) l 1; rw [hr1] at this; exact this
      have hx2l : x2.length ≤ l.length := by have := textR_len (e1, p1) l 2; rw [hr2] at this; exact this
      have hLb2 := brief_snoc hLb (x := x1) (y := x2) (by omega) (by omega)
      have HM := hid (show N - (n + 1) = m by omega)
      have HE3 := hid (show loopR l (N - (n + 1)) (e2, p2) (L ++ [⟨⟨x1.toArray⟩, ⟨x2.toArray⟩⟩]) = R by rw [HM.out]; exact hE2)
      have HYS := hid (show flat L ++ flat [⟨⟨x1.toArray⟩, ⟨x2.toArray⟩⟩] = flat (L ++ [⟨⟨x1.toArray⟩, ⟨x2.toArray⟩⟩]) from (flat_app _ _).symm)
      obtain ⟨L2, hL2⟩ : ∃ L2 : List TagV, L2 = L ++ [⟨⟨x1.toArray⟩, ⟨x2.toArray⟩⟩] := ⟨_, rfl⟩
      have HLL := hid (show L.length + 1 = L2.length by rw [hL2, List.length_append]; rfl)
      rw [← hL2] at HE3 HYS hLb2
      clear hr1 hr2 hx1l hx2l HX1 hE2 hm hE HM hL2
      go_wp2_with fail
      refine HX1'.out.mono ?_
      rintro e w4 ⟨rfl, hT4, hB4⟩
      have hbw4 := But.below hbw hB4 (fun b h => by have h2 : b = g := h; omega) hbw.size
      have hown4 := own_far hown hB4 hgB
      have hBw4 := Nat.le_trans hBw hB4.size
      clear hT hB4 hbw hown hBw HX1' cN
      go_wp2_with fail
      refine (HX2.out w4 hT4).mono ?_
      rintro e w5 ⟨rfl, hT5, hB5⟩
      have hbw5 := But.below hbw4 hB5 (fun b h => by have h2 : b = g := h; omega) hbw4.size
      have hown5 := own_far hown4 hB5 hgB
      have hBw5 := Nat.le_trans hBw4 hB5.size
      clear hT4 hB5 hbw4 hown4 hBw4 HX2
      have hba := (Below.refl w5.heap.size w5).alloc (Nat.le_refl _) (.cells #[.string ⟨x1.toArray⟩, .string ⟨x2.toArray⟩] 100)
      have hown7 := NewT.below hown5 hba
      have hT7 := hT5.below hba
      have hbw7 := hbw5.trans (hba.mono hbw5.size)
      have hBw7 := Nat.le_trans hBw5 hba.size
      clear hT5 hown5 hbw5
      go_wp2_with (at_builtin; refine wpList_app rfl (.tmp 52) (.tmp 56) _ rfl elT rfl hown7 (some ⟨w5.heap.size, 0, none⟩) 1 1 rfl (flat [⟨⟨x1.toArray⟩, ⟨x2.toArray⟩⟩]) (Sees.of_alloc _ _ _ rfl) (by simp [flat]) (flat_one _) L2.length HLL.out _ HYS.out (by have := HLL.out; unfold maxLen; omega) (by have := HLL.out; omega) hBw7 ?_; intro A5 c5 w8 hown8 hgr hat hbel)
      have hT8 := hT7.far hgB hbel
      exact ⟨⟨n + 1, (e2, p2), L2, A5, c5, by omega, by go_num, rfl, hown8, hT8, hbw7.trans (hbel.mono hwB), Nat.le_trans hBw7 hbel.size, by have := HLL.out; omega, hLb2, HE3⟩, by simp [intOf]; omega⟩
    · obtain rfl : n = N := by omega
      have hd : decide ((n : Int) < (n : Int)) = false := decide_eq_false (by omega)
      have hRe := hE.out
      rw [Nat.sub_self, loopR] at hRe
      have hfin := HG.out
      rw [← hRe] at hfin
      unfold finG at hfin
      obtain ⟨e0, p0⟩ := s
      simp only at hT hfin
      have hU := rnextB_any g e0 p0 4 true l B wr hT hlen (by omega)
      rw [nextRB_true] at hU
      have h8 := takeU_len (e0, p0) l 4
      have hps : p0 ≤ l.length := by obtain ⟨_, _, _, _, _, _, h, _⟩ := hT; exact h
      obtain ⟨⟨⟨e1, p1⟩, x1⟩, hr1⟩ : ∃ r, takeU (e0, p0) l 4 = r := ⟨_, rfl⟩
      rw [hr1] at hU hfin h8
      simp only at hfin h8
      have HU := hid hU
      have HFN := hid hfin
      obtain ⟨A0, c0, k0, k1, k2, _, _, _, _, _⟩ := hT.cells
      have HV := hid (fun (A1 : Option Addr) (c1 : Nat) W (h : SeesB W A1 x1) => rvalue_any A1 c1 x1 W h h8)
      have hx8 : valLE x1 < 18446744073709551616 := by
        have := valLE_lt x1
        have := Nat.pow_le_pow_right (show 0 < 256 by omega) h8
        omega
      obtain ⟨X, hX⟩ : ∃ X, X = valLE x1 := ⟨_, rfl⟩
      rw [← hX] at HV hx8
      clear hU hfin hRe hr1 hE HG k0 k2
      go_wp2_with fail
      refine HU.out.mono ?_
      rintro e w4 ⟨A1, c1, rfl, hs1, hT4, hB4⟩
      have hbw4 := But.below hbw hB4 (fun b h => by have h2 : b = g := h; omega) hbw.size
      have hown4 := own_far hown hB4 hgB
      obtain ⟨A3, c3, m0, m1, m2, _, _, _, _, _⟩ := hT4.cells
      clear hown hB4 hbw hT k1 cN m0 HU
      go_wp2_with fail
      refine (HV.out A1 c1 w4 hs1).mono ?_
      rintro e wq ⟨rfl, rfl⟩
      clear HV hs1
      by_cases he : e1 = 0
      · subst he
        have HF := hid (show rGet l = if X ≠ (sumI (l.take p0)).toNat then (33, 0, []) else if (checkT L).2 ≠ 0 then ((checkT L).2, 0, []) else (0, p1, L) by rw [HFN.out, hX]; unfold endG; rw [if_neg (by simp)])
        have hsr := sumI_range (l.take p0)
        obtain ⟨S, hS⟩ := Int.eq_ofNat_of_zero_le hsr.1
        have hst2 : (l.take p0).length = p0 := by rw [List.length_take]; omega
        have hsum := fun W (hl : SeesB W (some a) (l.take p0)) => rsum_any (some a) c (l.take p0) W hl (by omega)
        rw [hst2, hS] at hsum
        rw [hS, Int.toNat_natCast] at HF
        rw [hS] at hsr
        have HSUM := hid hsum
        have hlq := hl.below hbw4
        have hsq : SeesB w4 (some a) (l.take p0) := by unfold SeesB; rw [List.map_take]; exact Sees.take hlq p0
        clear HFN hX hS hsum hst2
        go_wp2_with fail
        refine (HSUM.out w4 hsq).mono ?_
        rintro e wq ⟨rfl, rfl⟩
        clear hsq hlq HSUM
        by_cases hXS : X = S
        · have hC := rcheck_any A' c' L w4 (NewT.sees hown4) (NewT.cap hown4) (by unfold maxLen; omega) hLb
          obtain ⟨⟨ci, ce⟩, hck⟩ : ∃ r, checkT L = r := ⟨_, rfl⟩
          rw [hck] at hC HF
          rw [if_neg (by rw [hXS]; simp)] at HF
          simp only at hC HF
          have d : ((X : Int) != (S : Int)) = false := by simp; omega
          have HC := hid hC
          clear hck hC hXS
          go_wp2_with fail
          refine HC.out.mono ?_
          rintro e w8 ⟨rfl, hb8⟩
          have hbw8 := hbw4.trans (hb8.mono hbw4.size)
          have hown8 := NewT.below hown4 hb8
          replace m1 := keep1 hb8 m1
          clear hT4 hown4 hb8 hbw4 m2
          by_cases hce : ce = 0
          · subst hce
            have HF2 := hid (show rGet l = (0, p1, L) by rw [HF.out, if_neg (by simp)])
            clear HF
            go_wp2_with fail
            go_quiet (fail)
            go_wp2_with fail
            refine bodyPost_ret (results_tmp3 rfl _ _ _) rfl ?_
            rw [HF2.out]
            exact ⟨A', c', rfl, NewT.sees hown8, NewT.cap hown8, ⟨hbw8.os, hbw8.tape, hbw8.output, hbw8.size, hbw8.block⟩⟩
          · have de : (ce != 0) = true := by simpa using hce
            have de2 : decide (ce = 0) = false := decide_eq_false hce
            have HF2 := hid (show rGet l = (ce, 0, []) by rw [HF.out, if_pos hce])
            clear HF hce
            go_wp2_with fail
            refine bodyPost_ret (results_tmp3 rfl _ _ _) rfl ?_
            rw [HF2.out]
            exact get_bad ce hbw8
        · have d : ((X : Int) != (S : Int)) = true := by simp; omega
          have HF2 := hid (show rGet l = (33, 0, []) by rw [HF.out, if_pos hXS])
          clear HF hXS
          go_wp2_with fail
          refine bodyPost_ret (results_tmp3 rfl _ _ _) rfl ?_
          rw [HF2.out]
          exact get_bad 33 hbw4
      · have HF := hid (show rGet l = (e1, 0, []) by rw [HFN.out]; unfold endG; rw [if_pos he])
        have de : (e1 != 0) = true := by simpa using he
        have de2 : decide (e1 = 0) = false := decide_eq_false he
        clear HFN he hown4 hX
        go_wp2_with fail
        go_quiet (fail)
        go_wp2_with fail
        refine bodyPost_ret (results_tmp3 rfl _ _ _) rfl ?_
        rw [HF.out]
        exact get_bad e1 ⟨hbw4.os, hbw4.tape, hbw4.output, hbw4.size, hbw4.block⟩
theorem rtagget_any (A : Option Addr) (c : Nat) (l : List UInt8) (w : World) (hl : SeesB w A l) (hc : l.length ≤ c) (hcm : c ≤ maxLen) (hlen : l.length ≤ 140737488355328) :
    Calls Tryz.prog 18 #[.slice A l.length c] w (GetGPost w (getG l)) := by
  rw [← rGet_is]
  cases hst : startsG l with
  | false =>
    rw [show rGet l = (31, 0, []) by unfold rGet; rw [if_pos hst]]
    exact rtagget_kind A c l w hl hlen hst
  | true =>
    by_cases h3 : l.length < 3
    · rw [show rGet l = (10, 0, []) by unfold rGet; rw [if_neg (by rw [hst]; simp), if_pos h3]]
      exact rtagget_few A c l w hl hst h3
    · exact rtagget_long A c l w hl hc hcm hst hlen (by omega)
end Go.Proofs.YtkmhmehofipehaaGreatDoor
