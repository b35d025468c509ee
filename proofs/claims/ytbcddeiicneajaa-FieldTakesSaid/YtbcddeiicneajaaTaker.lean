/- A taker of fields: what its small functions do. -/
import Derived.Test.YtbcddeiicneajaaField3
namespace Go.Proofs.Ytbcddeiicneajaa
set_option linter.unusedVariables false
open Go.RowKit
theorem SeesB.cutTo {w : World} {A : Option Addr} {l : List UInt8} (h : SeesB w A l) (k n : Nat) : SeesB w (A.map (·.add k)) ((l.drop k).take n) := by
  intro i v hv
  have hin : i < n := by
    rcases Nat.lt_or_ge i n with h1 | h1
    · exact h1
    · rw [List.getElem?_eq_none (by simp; omega)] at hv; cases hv
  rw [List.getElem?_map, List.getElem?_take_of_lt hin, List.getElem?_drop, ← List.getElem?_map] at hv
  obtain ⟨a, ha, hc⟩ := h _ v hv
  exact ⟨a.add k, by rw [ha]; rfl, by rw [addr_add]; exact hc⟩
theorem own_cap {w : World} {base n size : Nat} {e : TypeId} {A : Option Addr} {c : Nat} {xs : List Value} (h : w.ownsRow base e size (.slice A n c) n xs) : n ≤ c ∧ c ≤ maxLen := by
  rcases h.2 with ⟨h', h0⟩ | ⟨g, cap, cur, h', hb, hg, h1, h2, _⟩
  · injection h' with _ _ h3
    subst h0 h3; exact ⟨Nat.le_refl _, by unfold maxLen; omega⟩
  · injection h' with _ _ h3
    subst h3; exact ⟨h1, h2⟩
/-- block g is a taker with this error, at this place of these bytes -/
def Tk (w : World) (g : Nat) (err : Int) (p : Nat) (l : List UInt8) : Prop :=
  ∃ (A : Option Addr) (c : Nat), w.heap[g]? = some (.cells #[.int .i64 err, .slice A l.length c, .int .i64 (p : Int)] 69 (0, 0)) ∧ SeesB w A l ∧ l.length ≤ c ∧ c ≤ maxLen ∧ p ≤ l.length ∧ ∀ a, A = some a → a.block ≠ g
def Only (g n : Nat) : Prop := n = g
theorem Tk.cells {w : World} {g : Nat} {err : Int} {p : Nat} {l : List UInt8} (h : Tk w g err p l) :
    ∃ (A : Option Addr) (c : Nat), w.cell? ⟨g, 0, none⟩ = some (.int .i64 err) ∧ w.cell? ⟨g, 1, none⟩ = some (.slice A l.length c) ∧ w.cell? ⟨g, 2, none⟩ = some (.int .i64 (p : Int)) ∧ SeesB w A l ∧ l.length ≤ c ∧ c ≤ maxLen ∧ p ≤ l.length ∧ ∀ i, w.frozen? ⟨g, i, none⟩ = false := by
  obtain ⟨A, c, hg, hs, h1, h2, h3, h4⟩ := h
  exact ⟨A, c, by rw [cell_of_row _ _ _ _ _ _ hg]; rfl, by rw [cell_of_row _ _ _ _ _ _ hg]; rfl, by rw [cell_of_row _ _ _ _ _ _ hg]; rfl, hs, h1, h2, h3, fun i => frozen_of_row _ _ _ _ _ hg⟩
theorem Tk.setErr {w : World} {g : Nat} {err : Int} {p : Nat} {l : List UInt8} (h : Tk w g err p l) (e : Int) : Tk (w.setCell ⟨g, 0, none⟩ (.int .i64 e)) g e p l ∧ But (Only g) w (w.setCell ⟨g, 0, none⟩ (.int .i64 e)) := by
  obtain ⟨A, c, hg, hs, h1, h2, h3, h4⟩ := h
  have hb : But (Only g) w (w.setCell ⟨g, 0, none⟩ (.int .i64 e)) := ⟨rfl, rfl, rfl, by simp [World.setCell], fun b _ hb => heap_setCell_other w _ b _ (fun h => hb h)⟩
  exact ⟨⟨A, c, heap_setCell_same w g 0 _ _ _ hg, Sees.but hs hb (fun a ha h => h4 a ha h), h1, h2, h3, h4⟩, hb⟩
theorem Tk.setAt {w : World} {g : Nat} {err : Int} {p : Nat} {l : List UInt8} (h : Tk w g err p l) (q : Nat) (hq : q ≤ l.length) : Tk (w.setCell ⟨g, 2, none⟩ (.int .i64 (q : Int))) g err q l ∧ But (Only g) w (w.setCell ⟨g, 2, none⟩ (.int .i64 (q : Int))) := by
  obtain ⟨A, c, hg, hs, h1, h2, h3, h4⟩ := h
  have hb : But (Only g) w (w.setCell ⟨g, 2, none⟩ (.int .i64 (q : Int))) := ⟨rfl, rfl, rfl, by simp [World.setCell], fun b _ hb => heap_setCell_other w _ b _ (fun h => hb h)⟩
  exact ⟨⟨A, c, heap_setCell_same w g 2 _ _ _ hg, Sees.but hs hb (fun a ha h => h4 a ha h), h1, h2, hq, h4⟩, hb⟩
theorem Tk.below {w w' : World} {g : Nat} {err : Int} {p : Nat} {l : List UInt8} (h : Tk w g err p l) (hb : Below w.heap.size w w') : Tk w' g err p l := by
  obtain ⟨A, c, hg, hs, h1, h2, h3, h4⟩ := h
  exact ⟨A, c, (hb.block g (Array.getElem?_eq_some_iff.1 hg).1).trans hg, hs.below hb, h1, h2, h3, h4⟩
set_option maxHeartbeats 400000 in
theorem tready_is (g : Nat) (err : Int) (b : Bool) (w : World) (hc0 : w.cell? ⟨g, 0, none⟩ = some (.int .i64 err)) (h : (err == 0) = b) :
    Calls Try.prog 36 #[.pointer (some ⟨g, 0, none⟩)] w fun x w' => x = .returned (.bool b) ∧ w = w' := by
  go_enter Try.func36, Try.ntmps36
  go_wp2
  go_ret
  exact ⟨rfl, rfl⟩
set_option maxHeartbeats 400000 in
theorem tready_nil (w : World) :
    Calls Try.prog 36 #[.pointer none] w fun x w' => x = .returned (.bool false) ∧ w = w' := by
  go_enter Try.func36, Try.ntmps36
  go_wp2
  go_ret
  exact ⟨rfl, rfl⟩
def TakePost (w : World) (l : List UInt8) (e : Ending) (w' : World) : Prop := ∃ g, e = .returned (.pointer (some ⟨g, 0, none⟩)) ∧ w.heap.size ≤ g ∧ Tk w' g 0 0 l ∧ Below w.heap.size w w'
set_option maxHeartbeats 1000000 in
theorem take_any (A : Option Addr) (c : Nat) (l : List UInt8) (w : World) (hl : SeesB w A l) (hlen : l.length ≤ 140737488355328) :
    Calls Try.prog 14 #[.slice A l.length c] w (TakePost w l) := by
  go_enter Try.func14, Try.ntmps14
  go_wp2_with fail
  refine (clone_any A c l _ hl hlen).mono ?_
  rintro e w1 ⟨v, rfl, hv⟩
  obtain ⟨A1, c1, rfl, hs, hA, ho, hb⟩ := hv.parts
  go_wp2_with fail
  go_ret
  refine ⟨w1.heap.size, rfl, hb.size, ⟨A1, c1, heap_alloc_new _ _, SeesB.below hs ((Below.refl _ w1).alloc (Nat.le_refl _) _), (own_cap ho).1, (own_cap ho).2, Nat.zero_le _, fun a ha => ?_⟩, hb.alloc hb.size _⟩
  have := (hA a ha).2
  omega
/-- what a taker that is fine gives of the next n bytes -/
def tnext (p : Nat) (l : List UInt8) (n : Nat) : (Int × Nat) × List UInt8 := if l.length - p < n then ((10, p), []) else ((0, p + n), (l.drop p).take n)
def NextPost (w : World) (g : Nat) (l : List UInt8) (r : (Int × Nat) × List UInt8) (e : Ending) (w' : World) : Prop :=
  ∃ (A : Option Addr) (c : Nat), e = .returned (.slice A r.2.length c) ∧ SeesB w' A r.2 ∧ r.2.length ≤ c ∧ c ≤ maxLen ∧ Tk w' g r.1.1 r.1.2 l ∧ But (Only g) w w'
set_option maxHeartbeats 1000000 in
theorem tnext_any (g : Nat) (p n : Nat) (l : List UInt8) (w : World) (h : Tk w g 0 p l) (hlen : l.length ≤ 140737488355328) (hn : n ≤ 9223372036854775807) :
    Calls Try.prog 37 #[.pointer (some ⟨g, 0, none⟩), .int .i64 (n : Int)] w (NextPost w g l (tnext p l n)) := by
  obtain ⟨A, c, hc0, hc1, hc2, hs, h1, h2, h3, hf⟩ := h.cells
  have hf0 := hf 0
  have hf2 := hf 2
  by_cases hlt : l.length - p < n
  · rw [tnext, if_pos hlt]
    have d1 : decide ((l.length : Int) - p < n) = true := by simp; omega
    go_enter Try.func37, Try.ntmps37
    go_wp2_with fail
    go_quiet (fail)
    go_wp2_with fail
    have hdr : Below w.heap.size w (w.drewN nq) := ⟨rfl, rfl, rfl, Nat.le_refl _, fun _ _ => rfl⟩
    refine (fail_ok g 10 (w.drewN nq) hc0 hf0).mono ?_
    rintro e w' ⟨rfl, rfl⟩
    go_wp2_with fail
    have hT := (h.below hdr).setErr 10
    go_ret
    exact ⟨none, 0, rfl, Sees.nil _ _, Nat.le_refl _, by unfold maxLen; omega, hT.1, (But.of_below (R := Only g) hdr).trans hT.2 (fun n h => .inl h)⟩
  · rw [tnext, if_neg hlt]
    have d1 : decide ((n : Int) > (l.length : Int) - p) = false := by simp; omega
    have hw2 : wrap64 ((p : Int) + n) = ((p + n : Nat) : Int) := by unfold wrap64; unfold maxLen at h2; omega
    go_enter Try.func37, Try.ntmps37
    go_wp2_with fail
    go_quiet (fail)
    go_wp2_with fail
    have hdr : Below w.heap.size w (w.drewN nq) := ⟨rfl, rfl, rfl, Nat.le_refl _, fun _ _ => rfl⟩
    have hT := (h.below hdr).setAt (p + n) (by omega)
    rw [show ((p + n : Nat) : Int) = (p : Int) + n by omega] at hT
    generalize (w.drewN nq).setCell ⟨g, 2, none⟩ (.int .i64 ((p : Int) + n)) = w1 at *
    obtain ⟨hT1, hT2⟩ := hT
    clear hc0 hc1 hc2 hs hf hf0 hf2
    obtain ⟨A, c, hc0, hc1, hc2, hs, h1, h2, h3, hf⟩ := hT1.cells
    rw [show ((p + n : Nat) : Int) = (p : Int) + n by omega] at hc2
    have b0 : 0 ≤ (p : Int) := by omega
    have b1 : (p : Int) ≤ p + n := by omega
    have b2 : (p : Int) + n ≤ c := by omega
    go_quiet (fail)
    go_wp2_with fail
    · have hl2 : (l.drop p).take n = [] := by rw [List.drop_eq_nil_of_le (by omega), List.take_nil]
      have hn0 : n = 0 := by omega
      have hd1 : Below w1.heap.size w1 (w1.drewN nq) := ⟨rfl, rfl, rfl, Nat.le_refl _, fun _ _ => rfl⟩
      rw [hl2]
      refine bodyPost_ret (results_tmp rfl _ _ _) rfl ?_
      refine ⟨A, 0, ?_, Sees.nil _ _, Nat.le_refl _, by unfold maxLen; omega, hT1.below hd1, ((But.of_below (R := Only g) hdr).trans hT2 (fun n h => .inl h)).trans (But.of_below (R := fun _ => False) hd1) (fun n h => h.elim)⟩
      subst hn0; rfl
    · have hlen2 : ((l.drop p).take n).length = n := by simp; omega
      have hd1 : Below w1.heap.size w1 (w1.drewN nq) := ⟨rfl, rfl, rfl, Nat.le_refl _, fun _ _ => rfl⟩
      have hf : NextPost w g l ((0, p + n), (l.drop p).take n) (.returned (.slice (A.map (·.add p)) n (c - p))) (w1.drewN nq) :=
        ⟨_, _, by rw [hlen2], SeesB.cutTo (SeesB.below hs hd1) p n, by rw [hlen2]; omega, by omega, hT1.below hd1, ((But.of_below (R := Only g) hdr).trans hT2 (fun n h => .inl h)).trans (But.of_below (R := fun _ => False) hd1) (fun n h => h.elim)⟩
      go_ret
      exact hf
end Go.Proofs.Ytbcddeiicneajaa
