/- The reference's taker: Next, Left. -/
import Derived.Test.YtbcddeiicneajaaTakerRaw
import Derived.Test.YtbcddeiicneajaaTakerText
import Derived.Test.YtbcddeiicneajaaRefValue
namespace Go.Proofs.Ytbcddeiicneajaa
set_option linter.unusedVariables false
open Go.RowKit
/-- bytes are not touched where another block, that holds no bytes, turns -/
theorem SeesB.butTyped {w w' : World} {A : Option Addr} {l : List UInt8} {q : Nat} {cs : Array Value} {t : TypeId} {fr : Nat × Nat} (h : SeesB w A l) (hb : But (Only q) w w') (hq : w.heap[q]? = some (.cells cs t fr)) (hcs : ∀ (j : Nat) (z : Int), cs[j]? ≠ some (.int .u8 z)) : SeesB w' A l := by
  intro i u hu
  obtain ⟨a, ha, hc⟩ := h i u hu
  have hlt := block_lt_of_cell hc
  refine ⟨a, ha, (World.cell?_of_block (w := w) (hb.block _ hlt ?_)).trans hc⟩
  rw [addr_block]
  intro hbq
  have hb' : a.block = q := hbq
  have hcc := hc
  unfold World.cell? at hcc
  rw [addr_block, hb', hq] at hcc
  have hcc2 : cs[(a.add i).off]? = some u := by
    dsimp only at hcc
    split at hcc
    · cases hcc
    · exact hcc
  rw [List.getElem?_map] at hu
  cases h5 : l[i]? with
  | none => rw [h5] at hu; cases hu
  | some b =>
    rw [h5] at hu
    injection hu with hu
    exact hcs _ _ (hcc2.trans (by rw [← hu]; rfl))
theorem rk_row (A : Option Addr) (n c : Nat) (x y : Int) : ∀ (j : Nat) (z : Int), (#[Value.slice A n c, .int .i64 x, .int .i64 y] : Array Value)[j]? ≠ some (.int .u8 z) := by
  intro j z h
  match j with
  | 0 => simp at h
  | 1 => simp at h
  | 2 => simp at h
  | j + 3 => simp at h
theorem tk_row (A : Option Addr) (n c : Nat) (x y : Int) : ∀ (j : Nat) (z : Int), (#[Value.int .i64 x, .slice A n c, .int .i64 y] : Array Value)[j]? ≠ some (.int .u8 z) := by
  intro j z h
  match j with
  | 0 => simp at h
  | 1 => simp at h
  | 2 => simp at h
  | j + 3 => simp at h
/-- block g is the reference's taker with this error, at this place of these bytes -/
def Rk (w : World) (g : Nat) (err : Int) (p : Nat) (l : List UInt8) : Prop :=
  ∃ (A : Option Addr) (c : Nat), w.heap[g]? = some (.cells #[.slice A l.length c, .int .i64 (p : Int), .int .i64 err] 52 (0, 0)) ∧ SeesB w A l ∧ l.length ≤ c ∧ c ≤ maxLen ∧ p ≤ l.length
theorem Rk.cells {w : World} {g : Nat} {err : Int} {p : Nat} {l : List UInt8} (h : Rk w g err p l) :
    ∃ (A : Option Addr) (c : Nat), w.cell? ⟨g, 0, none⟩ = some (.slice A l.length c) ∧ w.cell? ⟨g, 1, none⟩ = some (.int .i64 (p : Int)) ∧ w.cell? ⟨g, 2, none⟩ = some (.int .i64 err) ∧ SeesB w A l ∧ l.length ≤ c ∧ c ≤ maxLen ∧ p ≤ l.length ∧ ∀ i, w.frozen? ⟨g, i, none⟩ = false := by
  obtain ⟨A, c, hg, hs, h1, h2, h3⟩ := h
  exact ⟨A, c, by rw [cell_of_row _ _ _ _ _ _ hg]; rfl, by rw [cell_of_row _ _ _ _ _ _ hg]; rfl, by rw [cell_of_row _ _ _ _ _ _ hg]; rfl, hs, h1, h2, h3, fun i => frozen_of_row _ _ _ _ _ hg⟩
theorem Rk.setErr {w : World} {g : Nat} {err : Int} {p : Nat} {l : List UInt8} (h : Rk w g err p l) (e : Int) : Rk (w.setCell ⟨g, 2, none⟩ (.int .i64 e)) g e p l ∧ But (Only g) w (w.setCell ⟨g, 2, none⟩ (.int .i64 e)) := by
  obtain ⟨A, c, hg, hs, h1, h2, h3⟩ := h
  have hb : But (Only g) w (w.setCell ⟨g, 2, none⟩ (.int .i64 e)) := ⟨rfl, rfl, rfl, by simp [World.setCell], fun b _ hb => heap_setCell_other w _ b _ (fun h => hb h)⟩
  exact ⟨⟨A, c, heap_setCell_same w g 2 _ _ _ hg, SeesB.butTyped hs hb hg (rk_row _ _ _ _ _), h1, h2, h3⟩, hb⟩
theorem Rk.setAt {w : World} {g : Nat} {err : Int} {p : Nat} {l : List UInt8} (h : Rk w g err p l) (q : Nat) (hq : q ≤ l.length) : Rk (w.setCell ⟨g, 1, none⟩ (.int .i64 (q : Int))) g err q l ∧ But (Only g) w (w.setCell ⟨g, 1, none⟩ (.int .i64 (q : Int))) := by
  obtain ⟨A, c, hg, hs, h1, h2, h3⟩ := h
  have hb : But (Only g) w (w.setCell ⟨g, 1, none⟩ (.int .i64 (q : Int))) := ⟨rfl, rfl, rfl, by simp [World.setCell], fun b _ hb => heap_setCell_other w _ b _ (fun h => hb h)⟩
  exact ⟨⟨A, c, heap_setCell_same w g 1 _ _ _ hg, SeesB.butTyped hs hb hg (rk_row _ _ _ _ _), h1, h2, hq⟩, hb⟩
theorem Rk.below {w w' : World} {g : Nat} {err : Int} {p : Nat} {l : List UInt8} (h : Rk w g err p l) (hb : Below w.heap.size w w') : Rk w' g err p l := by
  obtain ⟨A, c, hg, hs, h1, h2, h3⟩ := h
  exact ⟨A, c, (hb.block g (Array.getElem?_eq_some_iff.1 hg).1).trans hg, hs.below hb, h1, h2, h3⟩
def RNextPost (w : World) (g : Nat) (l : List UInt8) (r : (Int × Nat) × List UInt8) (e : Ending) (w' : World) : Prop :=
  ∃ (A : Option Addr) (c : Nat), e = .returned (.slice A r.2.length c) ∧ SeesB w' A r.2 ∧ Rk w' g r.1.1 r.1.2 l ∧ But (Only g) w w'
/-- what the reference's taker gives of the next n bytes, of a field or not -/
def nextR (s : Int × Nat) (l : List UInt8) (n : Int) (b : Bool) : (Int × Nat) × List UInt8 := if b = true then takeU s l n else takeRaw s l n
/-- the two takers do not touch one another -/
theorem Rk.butTk {w w' : World} {g q : Nat} {e e' : Int} {p p' : Nat} {l l' : List UInt8} (h : Rk w q e p l) (ht : Tk w g e' p' l') (hb : But (Only g) w w') (hne : q ≠ g) : Rk w' q e p l := by
  obtain ⟨A, c, hg, hs, h1, h2, h3⟩ := h
  obtain ⟨A', c', hg', _⟩ := ht
  exact ⟨A, c, (hb.block q (Array.getElem?_eq_some_iff.1 hg).1 hne).trans hg, SeesB.butTyped hs hb hg' (tk_row _ _ _ _ _), h1, h2, h3⟩
theorem Tk.butRk {w w' : World} {g q : Nat} {e e' : Int} {p p' : Nat} {l l' : List UInt8} (h : Tk w g e p l) (hr : Rk w q e' p' l') (hb : But (Only q) w w') (hne : g ≠ q) : Tk w' g e p l := by
  obtain ⟨A, c, hg, hs, h1, h2, h3, h4⟩ := h
  obtain ⟨A', c', hg', _⟩ := hr
  exact ⟨A, c, (hb.block g (Array.getElem?_eq_some_iff.1 hg).1 hne).trans hg, SeesB.butTyped hs hb hg' (rk_row _ _ _ _ _), h1, h2, h3, h4⟩
set_option maxHeartbeats 2000000 in
theorem rnext_ok (g : Nat) (p n : Nat) (b : Bool) (l : List UInt8) (w : World) (h : Rk w g 0 p l) (hlen : l.length ≤ 140737488355328) (hn : n ≤ 9223372036854775807) (hb : b = true → 1 ≤ n ∧ n ≤ 8) :
    Calls Try.prog 40 #[.pointer (some ⟨g, 0, none⟩), .int .i64 (n : Int), .bool b] w (RNextPost w g l (tnext p l n)) := by
  obtain ⟨A, c, hc0, hc1, hc2, hs, h1, h2, h3, hf⟩ := h.cells
  have hf1 := hf 1
  have hf2 := hf 2
  have d0 : decide ((n : Int) < 0) = false := decide_eq_false (by omega)
  have HB : b = false ∨ (b = true ∧ 1 ≤ n ∧ n ≤ 8) := by
    cases b with
    | false => exact .inl rfl
    | true => exact .inr ⟨rfl, hb rfl⟩
  clear hb
  by_cases hlt : l.length - p < n
  · rw [tnext, if_pos hlt]
    have d1 : decide ((l.length : Int) - p < n) = true := by simp; omega
    have key : ∀ w0, Below w.heap.size w w0 → RNextPost w g l ((10, p), []) (.returned (.slice none 0 0)) (w0.setCell ⟨g, 2, none⟩ (.int .i64 10)) := by
      intro w0 hdr
      have hT := (h.below hdr).setErr 10
      exact ⟨none, 0, rfl, Sees.nil _ _, hT.1, (But.of_below (R := Only g) hdr).trans hT.2 (fun n h => .inl h)⟩
    rcases HB with rfl | ⟨rfl, hb1, hb2⟩
    · skip
      go_enter Try.func40, Try.ntmps40
      go_wp2_with fail
      go_quiet (fail)
      go_wp2_with fail
      go_ret
      exact key _ (below_drewN (Below.refl _ _) nq)
    · skip
      have d2 : decide ((n : Int) < 1) = false := decide_eq_false (by omega)
      have d3 : decide (8 < (n : Int)) = false := decide_eq_false (by omega)
      go_enter Try.func40, Try.ntmps40
      go_wp2_with fail
      go_quiet (fail)
      go_wp2_with fail
      go_ret
      exact key _ (below_drewN (Below.refl _ _) nq)
  · rw [tnext, if_neg hlt]
    have d1 : decide ((n : Int) > (l.length : Int) - p) = false := by simp; omega
    have hw2 : wrap64 ((p : Int) + n) = ((p + n : Nat) : Int) := by unfold wrap64; unfold maxLen at h2; omega
    rcases HB with rfl | ⟨rfl, hb1, hb2⟩
    · skip
      go_enter Try.func40, Try.ntmps40
      go_wp2_with fail
      go_quiet (fail)
      go_wp2_with fail
      have hdr : Below w.heap.size w (w.drewN nq) := below_drewN (Below.refl _ _) nq
      have hT := (h.below hdr).setAt (p + n) (by omega)
      rw [show ((p + n : Nat) : Int) = (p : Int) + n by omega] at hT
      generalize (w.drewN nq).setCell ⟨g, 1, none⟩ (.int .i64 ((p : Int) + n)) = w1 at *
      obtain ⟨hT1, hT2⟩ := hT
      clear hc0 hc1 hc2 hs hf hf1 hf2
      have hBT : But (Only g) w w1 := (But.of_below (R := Only g) hdr).trans hT2 (fun n h => .inl h)
      clear hT2 hdr
      obtain ⟨A, c, hc0, hc1, hc2, hs, h1, h2, h3, hf⟩ := hT1.cells
      rw [show ((p + n : Nat) : Int) = (p : Int) + n by omega] at hc1
      have b0 : 0 ≤ (p : Int) := by omega
      have b1 : (p : Int) ≤ p + n := by omega
      have b2 : (p : Int) + n ≤ c := by omega
      go_quiet (fail)
      go_wp2_with fail
      · have hl2 : (l.drop p).take n = [] := by rw [List.drop_eq_nil_of_le (by omega), List.take_nil]
        have hn0 : n = 0 := by omega
        have hd1 : Below w1.heap.size w1 (w1.drewN nq) := below_drewN (Below.refl _ _) nq
        rw [hl2]
        refine bodyPost_ret (results_tmp rfl _ _ _) rfl ?_
        refine ⟨A, 0, ?_, Sees.nil _ _, hT1.below hd1, hBT.trans (But.of_below (R := fun _ => False) hd1) (fun n h => h.elim)⟩
        subst hn0; rfl
      · have hlen2 : ((l.drop p).take n).length = n := by simp; omega
        have hd1 : Below w1.heap.size w1 (w1.drewN nq) := below_drewN (Below.refl _ _) nq
        have hfin : RNextPost w g l ((0, p + n), (l.drop p).take n) (.returned (.slice (A.map (·.add p)) n (c - p))) (w1.drewN nq) :=
          ⟨_, _, by rw [hlen2], SeesB.cutTo (SeesB.below hs hd1) p n, hT1.below hd1, hBT.trans (But.of_below (R := fun _ => False) hd1) (fun n h => h.elim)⟩
        go_ret
        exact hfin
    · skip
      have d2 : decide ((n : Int) < 1) = false := decide_eq_false (by omega)
      have d3 : decide (8 < (n : Int)) = false := decide_eq_false (by omega)
      go_enter Try.func40, Try.ntmps40
      go_wp2_with fail
      go_quiet (fail)
      go_wp2_with fail
      have hdr : Below w.heap.size w (w.drewN nq) := below_drewN (Below.refl _ _) nq
      have hT := (h.below hdr).setAt (p + n) (by omega)
      rw [show ((p + n : Nat) : Int) = (p : Int) + n by omega] at hT
      generalize (w.drewN nq).setCell ⟨g, 1, none⟩ (.int .i64 ((p : Int) + n)) = w1 at *
      obtain ⟨hT1, hT2⟩ := hT
      clear hc0 hc1 hc2 hs hf hf1 hf2
      have hBT : But (Only g) w w1 := (But.of_below (R := Only g) hdr).trans hT2 (fun n h => .inl h)
      clear hT2 hdr
      obtain ⟨A, c, hc0, hc1, hc2, hs, h1, h2, h3, hf⟩ := hT1.cells
      rw [show ((p + n : Nat) : Int) = (p : Int) + n by omega] at hc1
      have b0 : 0 ≤ (p : Int) := by omega
      have b1 : (p : Int) ≤ p + n := by omega
      have b2 : (p : Int) + n ≤ c := by omega
      go_quiet (fail)
      go_wp2_with fail
      · have hlen2 : ((l.drop p).take n).length = n := by simp; omega
        have hd1 : Below w1.heap.size w1 (w1.drewN nq) := below_drewN (Below.refl _ _) nq
        have hfin : RNextPost w g l ((0, p + n), (l.drop p).take n) (.returned (.slice (A.map (·.add p)) n (c - p))) (w1.drewN nq) :=
          ⟨_, _, by rw [hlen2], SeesB.cutTo (SeesB.below hs hd1) p n, hT1.below hd1, hBT.trans (But.of_below (R := fun _ => False) hd1) (fun n h => h.elim)⟩
        go_ret
        rw [show p + n - p = n by omega]
        exact hfin
set_option maxHeartbeats 1000000 in
theorem rnext_err (g : Nat) (err : Int) (p : Nat) (n : Int) (b : Bool) (l : List UInt8) (w : World) (h : Rk w g err p l) (he : err ≠ 0) :
    Calls Try.prog 40 #[.pointer (some ⟨g, 0, none⟩), .int .i64 n, .bool b] w (RNextPost w g l ((err, p), [])) := by
  obtain ⟨A, c, hc0, hc1, hc2, hs, h1, h2, h3, hf⟩ := h.cells
  have de : (err != 0) = true := by simpa using he
  have hfin : RNextPost w g l ((err, p), []) (.returned (.slice none 0 0)) w := ⟨none, 0, rfl, Sees.nil _ _, h, But.refl _ _⟩
  go_enter Try.func40, Try.ntmps40
  go_wp2_with fail
  go_ret
  exact hfin
set_option maxHeartbeats 1000000 in
theorem rnext_arg (g : Nat) (p : Nat) (n : Int) (b : Bool) (l : List UInt8) (w : World) (h : Rk w g 0 p l) (hn : n < 0 ∨ (b = true ∧ (n < 1 ∨ 8 < n))) :
    Calls Try.prog 40 #[.pointer (some ⟨g, 0, none⟩), .int .i64 n, .bool b] w (RNextPost w g l ((1, p), [])) := by
  obtain ⟨A, c, hc0, hc1, hc2, hs, h1, h2, h3, hf⟩ := h.cells
  have hf2 := hf 2
  have hT := h.setErr 1
  have hfin : RNextPost w g l ((1, p), []) (.returned (.slice none 0 0)) (w.setCell ⟨g, 2, none⟩ (.int .i64 1)) := ⟨none, 0, rfl, Sees.nil _ _, hT.1, hT.2⟩
  by_cases h0 : n < 0
  · have d0 : decide (n < 0) = true := decide_eq_true h0
    go_enter Try.func40, Try.ntmps40
    go_wp2_with fail
    go_ret
    exact hfin
  · have d0 : decide (n < 0) = false := decide_eq_false h0
    have hb : b = true := by
      rcases hn with h | ⟨h, _⟩
      · exact absurd h h0
      · exact h
    subst hb
    by_cases h1 : n < 1
    · have d1 : decide (n < 1) = true := decide_eq_true h1
      go_enter Try.func40, Try.ntmps40
      go_wp2_with fail
      go_ret
      exact hfin
    · have d1 : decide (n < 1) = false := decide_eq_false h1
      have d2 : decide (8 < n) = true := decide_eq_true (by omega)
      go_enter Try.func40, Try.ntmps40
      go_wp2_with fail
      go_ret
      exact hfin
theorem rnext_any (g : Nat) (err : Int) (p : Nat) (n : Int) (b : Bool) (l : List UInt8) (w : World) (h : Rk w g err p l) (hlen : l.length ≤ 140737488355328) (hn : n ≤ 9223372036854775807) :
    Calls Try.prog 40 #[.pointer (some ⟨g, 0, none⟩), .int .i64 n, .bool b] w (RNextPost w g l (nextR (err, p) l n b)) := by
  by_cases he : err = 0
  · subst he
    by_cases hn' : n < 0 ∨ (b = true ∧ (n < 1 ∨ 8 < n))
    · have hh : nextR (0, p) l n b = ((1, p), []) := by
        unfold nextR
        cases b with
        | true =>
          rw [if_pos rfl]
          unfold takeU
          rw [if_neg (by simp), if_pos (by rcases hn' with h | ⟨_, h⟩ <;> omega)]
        | false =>
          rw [if_neg (by simp)]
          unfold takeRaw
          rw [if_neg (by simp), if_pos (by rcases hn' with h | ⟨h, _⟩; exact h; cases h)]
      rw [hh]
      exact rnext_arg g p n b l w h hn'
    · have h0 : 0 ≤ n := by omega
      obtain ⟨N, rfl⟩ := Int.eq_ofNat_of_zero_le h0
      have hh : nextR (0, p) l (N : Int) b = tnext p l N := by
        unfold nextR
        cases b with
        | true =>
          rw [if_pos rfl]
          unfold takeU
          rw [if_neg (by simp), if_neg (by intro hc; exact hn' (.inr ⟨rfl, hc⟩))]
          rfl
        | false =>
          rw [if_neg (by simp)]
          unfold takeRaw
          rw [if_neg (by simp), if_neg (by omega)]
          rfl
      rw [hh]
      exact rnext_ok g p N b l w h hlen (by omega) (fun hb => by
        constructor
        · have : ¬ ((N : Int) < 1 ∨ 8 < (N : Int)) := fun hc => hn' (.inr ⟨hb, hc⟩)
          omega
        · have : ¬ ((N : Int) < 1 ∨ 8 < (N : Int)) := fun hc => hn' (.inr ⟨hb, hc⟩)
          omega)
  · have hh : nextR (err, p) l n b = ((err, p), []) := by
      unfold nextR
      cases b with
      | true => rw [if_pos rfl]; unfold takeU; rw [if_pos he]
      | false => rw [if_neg (by simp)]; unfold takeRaw; rw [if_pos he]
    rw [hh]
    exact rnext_err g err p n b l w h he
set_option maxHeartbeats 1000000 in
theorem rleft_is (g : Nat) (err : Int) (p : Nat) (l : List UInt8) (w : World) (h : Rk w g err p l) (hlen : l.length ≤ 140737488355328) :
    Calls Try.prog 23 #[.pointer (some ⟨g, 0, none⟩)] w fun x w' => x = .returned (.int .i64 (if err = 0 then ((l.length - p : Nat) : Int) else 0)) ∧ Below w.heap.size w w' := by
  obtain ⟨A, c, hc0, hc1, hc2, hs, h1, h2, h3, hf⟩ := h.cells
  by_cases h0 : err = 0
  · subst h0
    rw [if_pos rfl]
    go_enter Try.func23, Try.ntmps23
    go_wp2_with fail
    go_quiet (fail)
    go_wp2_with fail
    go_ret
    exact ⟨ret_int (by omega), below_drewN (Below.refl _ _) nq⟩
  · have d0 : (err != 0) = true := by simpa using h0
    rw [if_neg h0]
    go_enter Try.func23, Try.ntmps23
    go_wp2_with fail
    go_ret
    exact ⟨rfl, Below.refl _ _⟩
end Go.Proofs.Ytbcddeiicneajaa
