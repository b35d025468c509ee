/- A taker whose bytes lie below a block: what is made above it does not touch them. -/
import Derived.Test.YtllbemdeimgiiaaTaker2
import Derived.BigQuiet
namespace Go.Proofs.Ytllbemdeimgiiaa
set_option linter.unusedVariables false
open Go.RowKit
def TkB (w : World) (g : Nat) (err : Int) (p : Nat) (l : List UInt8) (B : Nat) : Prop :=
  ∃ (A : Option Addr) (c : Nat), w.heap[g]? = some (.cells #[.int .i64 err, .slice A l.length c, .int .i64 (p : Int)] 79 (0, 0)) ∧ SeesB w A l ∧ l.length ≤ c ∧ c ≤ maxLen ∧ p ≤ l.length ∧ ∀ a, A = some a → a.block ≠ g ∧ a.block < B
theorem TkB.tk {w : World} {g : Nat} {err : Int} {p : Nat} {l : List UInt8} {B : Nat} (h : TkB w g err p l B) : Tk w g err p l := by
  obtain ⟨A, c, hg, hs, h1, h2, h3, h4⟩ := h
  exact ⟨A, c, hg, hs, h1, h2, h3, fun a ha => (h4 a ha).1⟩
theorem Tk.tkB {w : World} {g : Nat} {err : Int} {p : Nat} {l : List UInt8} (h : Tk w g err p l) (hl : 0 < l.length) : TkB w g err p l w.heap.size := by
  obtain ⟨A, c, hg, hs, h1, h2, h3, h4⟩ := h
  refine ⟨A, c, hg, hs, h1, h2, h3, fun a ha => ⟨h4 a ha, ?_⟩⟩
  obtain ⟨a', ha', hc⟩ := hs.at hl
  rw [ha] at ha'
  injection ha' with ha'
  subst ha'
  have := block_lt_of_cell hc
  rwa [addr_block] at this
theorem TkB.setErr {w : World} {g : Nat} {err : Int} {p : Nat} {l : List UInt8} {B : Nat} (h : TkB w g err p l B) (e : Int) : TkB (w.setCell ⟨g, 0, none⟩ (.int .i64 e)) g e p l B ∧ But (Only g) w (w.setCell ⟨g, 0, none⟩ (.int .i64 e)) := by
  obtain ⟨A, c, hg, hs, h1, h2, h3, h4⟩ := h
  have hb : But (Only g) w (w.setCell ⟨g, 0, none⟩ (.int .i64 e)) := ⟨rfl, rfl, rfl, by simp [World.setCell], fun b _ hb => heap_setCell_other w _ b _ (fun h => hb h)⟩
  exact ⟨⟨A, c, heap_setCell_same w g 0 _ _ _ hg, Sees.but hs hb (fun a ha h => (h4 a ha).1 h), h1, h2, h3, h4⟩, hb⟩
theorem TkB.setAt {w : World} {g : Nat} {err : Int} {p : Nat} {l : List UInt8} {B : Nat} (h : TkB w g err p l B) (q : Nat) (hq : q ≤ l.length) : TkB (w.setCell ⟨g, 2, none⟩ (.int .i64 (q : Int))) g err q l B ∧ But (Only g) w (w.setCell ⟨g, 2, none⟩ (.int .i64 (q : Int))) := by
  obtain ⟨A, c, hg, hs, h1, h2, h3, h4⟩ := h
  have hb : But (Only g) w (w.setCell ⟨g, 2, none⟩ (.int .i64 (q : Int))) := ⟨rfl, rfl, rfl, by simp [World.setCell], fun b _ hb => heap_setCell_other w _ b _ (fun h => hb h)⟩
  exact ⟨⟨A, c, heap_setCell_same w g 2 _ _ _ hg, Sees.but hs hb (fun a ha h => (h4 a ha).1 h), h1, h2, hq, h4⟩, hb⟩
theorem TkB.below {w w' : World} {g : Nat} {err : Int} {p : Nat} {l : List UInt8} {B : Nat} (h : TkB w g err p l B) (hb : Below w.heap.size w w') : TkB w' g err p l B := by
  obtain ⟨A, c, hg, hs, h1, h2, h3, h4⟩ := h
  exact ⟨A, c, (hb.block g (Array.getElem?_eq_some_iff.1 hg).1).trans hg, hs.below hb, h1, h2, h3, h4⟩
/-- what is made above the block leaves the taker -/
theorem TkB.far {w w' : World} {g : Nat} {err : Int} {p : Nat} {l : List UInt8} {B : Nat} (h : TkB w g err p l B) (hg : g < B) (hb : Below B w w') : TkB w' g err p l B := by
  obtain ⟨A, c, hr, hs, h1, h2, h3, h4⟩ := h
  refine ⟨A, c, (hb.block g hg).trans hr, ?_, h1, h2, h3, h4⟩
  intro i v hv
  obtain ⟨a, ha, hc⟩ := hs i v hv
  exact ⟨a, ha, (World.cell?_of_block (w := w) (hb.block _ (by rw [addr_block]; exact (h4 a ha).2))).trans hc⟩
/-- a store into another block, whose cells are no bytes -/
theorem TkB.setTyped {w : World} {g q : Nat} {err : Int} {p : Nat} {l : List UInt8} {B : Nat} {cs : Array Value} {t : TypeId} {fr : Nat × Nat} (h : TkB w g err p l B) (hne : g ≠ q) (hq : w.heap[q]? = some (.cells cs t fr)) (hcs : ∀ (j : Nat) (z : Int), cs[j]? ≠ some (.int .u8 z)) (j : Nat) (v : Value) : TkB (w.setCell ⟨q, j, none⟩ v) g err p l B := by
  obtain ⟨A, c, hr, hs, h1, h2, h3, h4⟩ := h
  refine ⟨A, c, (heap_setCell_other w ⟨q, j, none⟩ g v hne).trans hr, ?_, h1, h2, h3, h4⟩
  intro i u hu
  obtain ⟨a, ha, hc⟩ := hs i u hu
  refine ⟨a, ha, (World.cell?_of_block (w := w) (heap_setCell_other w ⟨q, j, none⟩ _ v ?_)).trans hc⟩
  rw [addr_block]
  intro hb
  have hb' : a.block = q := hb
  have hcc := hc
  unfold World.cell? at hcc
  rw [addr_block, hb', hq] at hcc
  have hcc2 : cs[(a.add i).off]? = some u := by
    dsimp only at hcc
    split at hcc
    · cases hcc
    · exact hcc
  rw [List.getElem?_map] at hu
  cases h5 : l[i]? with
  | none => rw [h5] at hu; cases hu
  | some b =>
    rw [h5] at hu
    injection hu with hu
    exact hcs _ _ (hcc2.trans (by rw [← hu]; rfl))
def NextPostB (w : World) (g : Nat) (l : List UInt8) (B : Nat) (r : (Int × Nat) × List UInt8) (e : Ending) (w' : World) : Prop :=
  ∃ (A : Option Addr) (c : Nat), e = .returned (.slice A r.2.length c) ∧ SeesB w' A r.2 ∧ r.2.length ≤ c ∧ c ≤ maxLen ∧ TkB w' g r.1.1 r.1.2 l B ∧ But (Only g) w w'
set_option maxHeartbeats 1000000 in
theorem tnextB_any (g : Nat) (p n : Nat) (l : List UInt8) (w : World) (B : Nat) (h : TkB w g 0 p l B) (hlen : l.length ≤ 140737488355328) (hn : n ≤ 9223372036854775807) :
    Calls Try.prog 56 #[.pointer (some ⟨g, 0, none⟩), .int .i64 (n : Int)] w (NextPostB w g l B (tnext p l n)) := by
  obtain ⟨A, c, hc0, hc1, hc2, hs, h1, h2, h3, hf⟩ := h.tk.cells
  have hf0 := hf 0
  have hf2 := hf 2
  by_cases hlt : l.length - p < n
  · rw [tnext, if_pos hlt]
    have d1 : decide ((l.length : Int) - p < n) = true := by simp; omega
    go_enter Try.func56, Try.ntmps56
    go_wp2_with fail
    go_quiet (fail)
    go_wp2_with fail
    have hdr : Below w.heap.size w (w.drewN nq) := ⟨rfl, rfl, rfl, Nat.le_refl _, fun _ _ => rfl⟩
    refine (fail_ok g 10 (w.drewN nq) hc0 hf0).mono ?_
    rintro e w' ⟨rfl, rfl⟩
    go_wp2_with fail
    have hT := (h.below hdr).setErr 10
    go_ret
    exact ⟨none, 0, rfl, Sees.nil _ _, Nat.le_refl _, by unfold maxLen; omega, hT.1, (But.of_below (R := Only g) hdr).trans hT.2 (fun n h => .inl h)⟩
  · rw [tnext, if_neg hlt]
    have d1 : decide ((n : Int) > (l.length : Int) - p) = false := by simp; omega
    have hw2 : wrap64 ((p : Int) + n) = ((p + n : Nat) : Int) := by unfold wrap64; unfold maxLen at h2; omega
    go_enter Try.func56, Try.ntmps56
    go_wp2_with fail
    go_quiet (fail)
    go_wp2_with fail
    have hdr : Below w.heap.size w (w.drewN nq) := ⟨rfl, rfl, rfl, Nat.le_refl _, fun _ _ => rfl⟩
    have hT := (h.below hdr).setAt (p + n) (by omega)
    rw [show ((p + n : Nat) : Int) = (p : Int) + n by omega] at hT
    generalize (w.drewN nq).setCell ⟨g, 2, none⟩ (.int .i64 ((p : Int) + n)) = w1 at *
    obtain ⟨hT1, hT2⟩ := hT
    clear hc0 hc1 hc2 hs hf hf0 hf2
    obtain ⟨A, c, hc0, hc1, hc2, hs, h1, h2, h3, hf⟩ := hT1.tk.cells
    rw [show ((p + n : Nat) : Int) = (p : Int) + n by omega] at hc2
    have b0 : 0 ≤ (p : Int) := by omega
    have b1 : (p : Int) ≤ p + n := by omega
    have b2 : (p : Int) + n ≤ c := by omega
    go_quiet (fail)
    go_wp2_with fail
    · have hl2 : (l.drop p).take n = [] := by rw [List.drop_eq_nil_of_le (by omega), List.take_nil]
      have hn0 : n = 0 := by omega
      have hd1 : Below w1.heap.size w1 (w1.drewN nq) := ⟨rfl, rfl, rfl, Nat.le_refl _, fun _ _ => rfl⟩
      rw [hl2]
      refine bodyPost_ret (results_tmp rfl _ _ _) rfl ?_
      refine ⟨A, 0, ?_, Sees.nil _ _, Nat.le_refl _, by unfold maxLen; omega, hT1.below hd1, ((But.of_below (R := Only g) hdr).trans hT2 (fun n h => .inl h)).trans (But.of_below (R := fun _ => False) hd1) (fun n h => h.elim)⟩
      subst hn0; rfl
    · have hlen2 : ((l.drop p).take n).length = n := by simp; omega
      have hd1 : Below w1.heap.size w1 (w1.drewN nq) := ⟨rfl, rfl, rfl, Nat.le_refl _, fun _ _ => rfl⟩
      have hf : NextPostB w g l B ((0, p + n), (l.drop p).take n) (.returned (.slice (A.map (·.add p)) n (c - p))) (w1.drewN nq) :=
        ⟨_, _, by rw [hlen2], SeesB.cutTo (SeesB.below hs hd1) p n, by rw [hlen2]; omega, by omega, hT1.below hd1, ((But.of_below (R := Only g) hdr).trans hT2 (fun n h => .inl h)).trans (But.of_below (R := fun _ => False) hd1) (fun n h => h.elim)⟩
      go_ret
      exact hf
def UPostB (w : World) (g : Nat) (l : List UInt8) (B : Nat) (r : (Int × Nat) × List UInt8) (e : Ending) (w' : World) : Prop :=
  e = .returned (.int .u64 (valLE r.2 : Nat)) ∧ TkB w' g r.1.1 r.1.2 l B ∧ But (Only g) w w'
set_option maxHeartbeats 1000000 in
theorem takerUB_any (g : Nat) (err : Int) (p : Nat) (n : Int) (l : List UInt8) (w : World) (B : Nat) (h : TkB w g err p l B) (hlen : l.length ≤ 140737488355328) :
    Calls Try.prog 42 #[.pointer (some ⟨g, 0, none⟩), .int .i64 n] w (UPostB w g l B (takeU (err, p) l n)) := by
  obtain ⟨A, c, hc0, hc1, hc2, hs, h1, h2, h3, hf⟩ := h.tk.cells
  have hf0 := hf 0
  by_cases h0 : err = 0
  · subst h0
    by_cases hn : n < 1 ∨ 8 < n
    · rw [takeU, if_neg (by simp), if_pos hn]
      have hT := h.setErr 1
      go_enter Try.func42, Try.ntmps42
      go_wp2_with fail
      refine (tready_is g 0 true _ hc0 rfl).mono ?_
      rintro e w' ⟨rfl, rfl⟩
      go_wp2_with fail
      refine (may_no g n _ hc0 hf0 hn).mono ?_
      rintro e w' ⟨rfl, rfl⟩
      go_wp2_with fail
      go_ret
      exact ⟨rfl, hT.1, hT.2⟩
    · rw [takeU, if_neg (by simp), if_neg hn]
      obtain ⟨N, rfl⟩ := Int.eq_ofNat_of_zero_le (show 0 ≤ n by omega)
      have hN : 1 ≤ N ∧ N ≤ 8 := by omega
      rw [show ((N : Int)).toNat = N from rfl]
      have hr8 : (tnext p l N).2.length ≤ 8 := by
        unfold tnext; split
        · simp
        · simp; omega
      have hnx := tnextB_any g p N l w B h hlen (by omega)
      generalize tnext p l N = r at hr8 hnx
      go_enter Try.func42, Try.ntmps42
      go_wp2_with fail
      refine (tready_is g 0 true _ hc0 rfl).mono ?_
      rintro e w' ⟨rfl, rfl⟩
      go_wp2_with fail
      refine (may_yes g (N : Int) _ hc0 (by omega)).mono ?_
      rintro e w' ⟨rfl, rfl⟩
      go_wp2_with fail
      refine hnx.mono ?_
      rintro e w1 ⟨A1, c1, rfl, hs1, hc1', hc2', hT, hB⟩
      obtain ⟨m, hm⟩ : ∃ m, m = r.2.length := ⟨_, rfl⟩
      rw [← hm]
      go_wp2_with fail
      go_loop [5, 6, 7, 23] (fun v x y i => ∃ k : Nat, k ≤ r.2.length ∧ i = .int .i64 k ∧ v = .int .u64 (valLE (r.2.take k) : Nat)) (fun _ _ _ i => r.2.length - (intOf i).toNat)
      case atStart => exact ⟨0, by omega, rfl, rfl⟩
      case round =>
        obtain ⟨k, hk, rfl, rfl⟩ := hrel
        by_cases hlt : k < r.2.length
        · have hd : decide ((k : Int) < m) = true := by simp; omega
          obtain ⟨a, rfl, hc⟩ := hs1.at hlt
          have hbl := byte_lt r.2[k]
          go_wp2_with fail
          exact ⟨⟨k + 1, hlt, by go_num, by rw [or_add _ _ k (by omega) (by have := valLE_lt (r.2.take k); rwa [List.length_take, Nat.min_eq_left hk] at this), List.take_succ_eq_append_getElem hlt, valLE_snoc, List.length_take, Nat.min_eq_left hk]⟩, by simp [intOf]; omega⟩
        · obtain rfl : k = m := by omega
          have hd : decide ((k : Int) < k) = false := by simp
          have hfull : r.2.take k = r.2 := by rw [hm]; exact List.take_length
          rw [hfull]
          go_wp2_with fail
          go_ret
          exact ⟨rfl, hT, hB⟩
  · have d0 : (err == 0) = false := by simpa using h0
    rw [takeU, if_pos h0]
    go_enter Try.func42, Try.ntmps42
    go_wp2_with fail
    refine (tready_is g err false _ hc0 d0).mono ?_
    rintro e w' ⟨rfl, rfl⟩
    go_wp2_with fail
    go_ret
    exact ⟨rfl, h, But.refl _ _⟩
end Go.Proofs.Ytllbemdeimgiiaa
