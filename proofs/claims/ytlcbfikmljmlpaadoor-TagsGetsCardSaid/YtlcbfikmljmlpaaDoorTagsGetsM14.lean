/- A taker whose bytes lie below a block: what is made above it does not touch them. -/
import Derived.Test.YtlcbfikmljmlpaaDoorTagsGetsM13
import Derived.BigQuiet
import Derived.Test.YtlcbfikmljmlpaaDoorTagsGetsM1
namespace Go.Proofs.YtlcbfikmljmlpaaDoor
set_option linter.unusedVariables false
open Go.RowKit
def TkB (w : World) (g : Nat) (err : Int) (p : Nat) (l : List UInt8) (B : Nat) : Prop :=
  ∃ (A : Option Addr) (c : Nat), w.heap[g]? = some (.cells #[.int .i64 err, .slice A l.length c, .int .i64 (p : Int)] 97 (0, 0)) ∧ SeesB w A l ∧ l.length ≤ c ∧ c ≤ maxLen ∧ p ≤ l.length ∧ ∀ a, A = some a → a.block ≠ g ∧ a.block < B
theorem TkB.tk {w : World} {g : Nat} {err : Int} {p : Nat} {l : List UInt8} {B : Nat} (h : TkB w g err p l B) : Tk w g err p l := by
  obtain ⟨A, c, hg, hs, h1, h2, h3, h4⟩ := h
  exact ⟨A, c, hg, hs, h1, h2, h3, fun a ha => (h4 a ha).1⟩
theorem Tk.tkB {w : World} {g : Nat} {err : Int} {p : Nat} {l : List UInt8} (h : Tk w g err p l) (hl : 0 < l.length) : TkB w g err p l w.heap.size := by
  obtain ⟨A, c, hg, hs, h1, h2, h3, h4⟩ := h
  refine ⟨A, c, hg, hs, h1, h2, h3, fun a ha => ⟨h4 a ha, ?_⟩⟩
  obtain ⟨a', ha', hc⟩ := hs.at hl
  rw [ha] at ha'
  injection ha' with ha'
  subst ha'
  have := block_lt_of_cell hc
  rwa [addr_block] at this
theorem TkB.setErr {w : World} {g : Nat} {err : Int} {p : Nat} {l : List UInt8} {B : Nat} (h : TkB w g err p l B) (e : Int) : TkB (w.setCell ⟨g, 0, none⟩ (.int .i64 e)) g e p l B ∧ But (Only g) w (w.setCell ⟨g, 0, none⟩ (.int .i64 e)) := by
  obtain ⟨A, c, hg, hs, h1, h2, h3, h4⟩ := h
  have hb : But (Only g) w (w.setCell ⟨g, 0, none⟩ (.int .i64 e)) := ⟨rfl, rfl, rfl, by simp [World.setCell], fun b _ hb => heap_setCell_other w _ b _ (fun h => hb h)⟩
  exact ⟨⟨A, c, heap_setCell_same w g 0 _ _ _ hg, Sees.but hs hb (fun a ha h => (h4 a ha).1 h), h1, h2, h3, h4⟩, hb⟩
theorem TkB.setAt {w : World} {g : Nat} {err : Int} {p : Nat} {l : List UInt8} {B : Nat} (h : TkB w g err p l B) (q : Nat) (hq : q ≤ l.length) : TkB (w.setCell ⟨g, 2, none⟩ (.int .i64 (q : Int))) g err q l B ∧ But (Only g) w (w.setCell ⟨g, 2, none⟩ (.int .i64 (q : Int))) := by
  obtain ⟨A, c, hg, hs, h1, h2, h3, h4⟩ := h
  have hb : But (Only g) w (w.setCell ⟨g, 2, none⟩ (.int .i64 (q : Int))) := ⟨rfl, rfl, rfl, by simp [World.setCell], fun b _ hb => heap_setCell_other w _ b _ (fun h => hb h)⟩
  exact ⟨⟨A, c, heap_setCell_same w g 2 _ _ _ hg, Sees.but hs hb (fun a ha h => (h4 a ha).1 h), h1, h2, hq, h4⟩, hb⟩
theorem TkB.below {w w' : World} {g : Nat} {err : Int} {p : Nat} {l : List UInt8} {B : Nat} (h : TkB w g err p l B) (hb : Below w.heap.size w w') : TkB w' g err p l B := by
  obtain ⟨A, c, hg, hs, h1, h2, h3, h4⟩ := h
  exact ⟨A, c, (hb.block g (Array.getElem?_eq_some_iff.1 hg).1).trans hg, hs.below hb, h1, h2, h3, h4⟩
/-- what is made above the block leaves the taker -/
theorem TkB.far {w w' : World} {g : Nat} {err : Int} {p : Nat} {l : List UInt8} {B : Nat} (h : TkB w g err p l B) (hg : g < B) (hb : Below B w w') : TkB w' g err p l B := by
  obtain ⟨A, c, hr, hs, h1, h2, h3, h4⟩ := h
  refine ⟨A, c, (hb.block g hg).trans hr, ?_, h1, h2, h3, h4⟩
  intro i v hv
  obtain ⟨a, ha, hc⟩ := hs i v hv
  exact ⟨a, ha, (World.cell?_of_block (w := w) (hb.block _ (by rw [addr_block]; exact (h4 a ha).2))).trans hc⟩
/-- a store into another block, whose cells are no bytes -/
theorem TkB.setTyped {w : World} {g q : Nat} {err : Int} {p : Nat} {l : List UInt8} {B : Nat} {cs : Array Value} {t : TypeId} {fr : Nat × Nat} (h : TkB w g err p l B) (hne : g ≠ q) (hq : w.heap[q]? = some (.cells cs t fr)) (hcs : ∀ (j : Nat) (z : Int), cs[j]? ≠ some (.int .u8 z)) (j : Nat) (v : Value) : TkB (w.setCell ⟨q, j, none⟩ v) g err p l B := by
  obtain ⟨A, c, hr, hs, h1, h2, h3, h4⟩ := h
  refine ⟨A, c, (heap_setCell_other w ⟨q, j, none⟩ g v hne).trans hr, ?_, h1, h2, h3, h4⟩
  intro i u hu
  obtain ⟨a, ha, hc⟩ := hs i u hu
  refine ⟨a, ha, (World.cell?_of_block (w := w) (heap_setCell_other w ⟨q, j, none⟩ _ v ?_)).trans hc⟩
  rw [addr_block]
  intro hb
  have hb' : a.block = q := hb
  have hcc := hc
  unfold World.cell? at hcc
  rw [addr_block, hb', hq] at hcc
  have hcc2 : cs[(a.add i).off]? = some u := by
    dsimp only at hcc
    split at hcc
    · cases hcc
    · exact hcc
  rw [List.getElem?_map] at hu
  cases h5 : l[i]? with
  | none => rw [h5] at hu; cases hu
  | some b =>
    rw [h5] at hu
    injection hu with hu
    exact hcs _ _ (hcc2.trans (by rw [← hu]; rfl))
def NextPostB (w : World) (g : Nat) (l : List UInt8) (B : Nat) (r : (Int × Nat) × List UInt8) (e : Ending) (w' : World) : Prop :=
  ∃ (A : Option Addr) (c : Nat), e = .returned (.slice A r.2.length c) ∧ SeesB w' A r.2 ∧ r.2.length ≤ c ∧ c ≤ maxLen ∧ TkB w' g r.1.1 r.1.2 l B ∧ But (Only g) w w'
set_option maxHeartbeats 1000000 in
theorem tnextB_any (g : Nat) (p n : Nat) (l : List UInt8) (w : World) (B : Nat) (h : TkB w g 0 p l B) (hlen : l.length ≤ 140737488355328) (hn : n ≤ 9223372036854775807) :
    Calls Tryd.prog 71 #[.pointer (some ⟨g, 0, none⟩), .int .i64 (n : Int)] w (NextPostB w g l B (tnext p l n)) := by
  obtain ⟨A, c, hc0, hc1, hc2, hs, h1, h2, h3, hf⟩ := h.tk.cells
  have hf0 := hf 0
  have hf2 := hf 2
  by_cases hlt : l.length - p < n
  · rw [tnext, if_pos hlt]
    have d1 : decide ((l.length : Int) - p < n) = true := by simp; omega
    go_enter Tryd.func71, Tryd.ntmps71
    go_wp2_with fail
    go_quiet (fail)
    go_wp2_with fail
    have hdr : Below w.heap.size w (w.drewN nq) := ⟨rfl, rfl, rfl, Nat.le_refl _, fun _ _ => rfl⟩
    refine (fail_ok g 10 (w.drewN nq) hc0 hf0).mono ?_
    rintro e w' ⟨rfl, rfl⟩
    go_wp2_with fail
    have hT := (h.below hdr).setErr 10
    go_ret
    exact ⟨none, 0, rfl, Sees.nil _ _, Nat.le_refl _, by unfold maxLen; omega, hT.1, (But.of_below (R := Only g) hdr).trans hT.2 (fun n h => .inl h)⟩
  · rw [tnext, if_neg hlt]
    have d1 : decide ((n : Int) > (l.length : Int) - p) = false := by simp; omega
    have hw2 : wrap64 ((p : Int) + n) = ((p + n : Nat) : Int) := by unfold wrap64; unfold maxLen at h2; omega
    go_enter Tryd.func71, Tryd.ntmps71
    go_wp2_with fail
    go_quiet (fail)
    go_wp2_with fail
    have hdr : Below w.heap.size w (w.drewN nq) := ⟨rfl, rfl, rfl, Nat.le_refl _, fun _ _ => rfl⟩
    have hT := (h.below hdr).setAt (p + n) (by omega)
    rw [show ((p + n : Nat) : Int) = (p : Int) + n by omega] at hT
    generalize (w.drewN nq).setCell ⟨g, 2, none⟩ (.int .i64 ((p : Int) + n)) = w1 at *
    obtain ⟨hT1, hT2⟩ := hT
    clear hc0 hc1 hc2 hs hf hf0 hf2
    obtain ⟨A, c, hc0, hc1, hc2, hs, h1, h2, h3, hf⟩ := hT1.tk.cells
    rw [show ((p + n : Nat) : Int) = (p : Int) + n by omega] at hc2
    have b0 : 0 ≤ (p : Int) := by omega
    have b1 : (p : Int) ≤ p + n := by omega
    have b2 : (p : Int) + n ≤ c := by omega
    go_quiet (fail)
    go_wp2_with fail
    · have hl2 : (l.drop p).take n = [] := by rw [List.drop_eq_nil_of_le (by omega), List.take_nil]
      have hn0 : n = 0 := by omega
      have hd1 : Below w1.heap.size w1 (w1.drewN nq) := ⟨rfl, rfl, rfl, Nat.le_refl _, fun _ _ => rfl⟩
      rw [hl2]
      refine bodyPost_ret (results_tmp rfl _ _ _) rfl ?_
      refine ⟨A, 0, ?_, Sees.nil _ _, Nat.le_refl _, by unfold maxLen; omega, hT1.below hd1, ((But.of_below (R := Only g) hdr).trans hT2 (fun n h => .inl h)).trans (But.of_below (R := fun _ => False) hd1) (fun n h => h.elim)⟩
      subst hn0; rfl
    · have hlen2 : ((l.drop p).take n).length = n := by simp; omega
      have hd1 : Below w1.heap.size w1 (w1.drewN nq) := ⟨rfl, rfl, rfl, Nat.le_refl _, fun _ _ => rfl⟩
      have hf : NextPostB w g l B ((0, p + n), (l.drop p).take n) (.returned (.slice (A.map (·.add p)) n (c - p))) (w1.drewN nq) :=
        ⟨_, _, by rw [hlen2], SeesB.cutTo (SeesB.below hs hd1) p n, by rw [hlen2]; omega, by omega, hT1.below hd1, ((But.of_below (R := Only g) hdr).trans hT2 (fun n h => .inl h)).trans (But.of_below (R := fun _ => False) hd1) (fun n h => h.elim)⟩
      go_ret
      exact hf
def UPostB (w : World) (g : Nat) (l : List UInt8) (B : Nat) (r : (Int × Nat) × List UInt8) (e : Ending) (w' : World) : Prop :=
  e = .returned (.int .u64 (valLE r.2 : Nat)) ∧ TkB w' g r.1.1 r.1.2 l B ∧ But (Only g) w w'
set_option maxHeartbeats 1000000 in
theorem takerUB_any (g : Nat) (err : Int) (p : Nat) (n : Int) (l : List UInt8) (w : World) (B : Nat) (h : TkB w g err p l B) (hlen : l.length ≤ 140737488355328) :
    Calls Tryd.prog 49 #[.pointer (some ⟨g, 0, none⟩), .int .i64 n] w (UPostB w g l B (takeU (err, p) l n)) := by
  obtain ⟨A, c, hc0, hc1, hc2, hs, h1, h2, h3, hf⟩ := h.tk.cells
  have hf0 := hf 0
  by_cases h0 : err = 0
  · subst h0
    by_cases hn : n < 1 ∨ 8 < n
    · rw [takeU, if_neg (by simp), if_pos hn]
      have hT := h.setErr 1
      go_enter Tryd.func49, Tryd.ntmps49
      go_wp2_with fail
      refine (tready_is g 0 true _ hc0 rfl).mono ?_
      rintro e w' ⟨rfl, rfl⟩
      go_wp2_with fail
      refine (may_no g n _ hc0 hf0 hn).mono ?_
      rintro e w' ⟨rfl, rfl⟩
      go_wp2_with fail
      go_ret
      exact ⟨rfl, hT.1, hT.2⟩
    · rw [takeU, if_neg (by simp), if_neg hn]
      obtain ⟨N, rfl⟩ := Int.eq_ofNat_of_zero_le (show 0 ≤ n by omega)
      have hN : 1 ≤ N ∧ N ≤ 8 := by omega
      rw [show ((N : Int)).toNat = N from rfl]
      have hr8 : (tnext p l N).2.length ≤ 8 := by
        unfold tnext; split
        · simp
        · simp; omega
      have hnx := tnextB_any g p N l w B h hlen (by omega)
      generalize tnext p l N = r at hr8 hnx
      go_enter Tryd.func49, Tryd.ntmps49
      go_wp2_with fail
      refine (tready_is g 0 true _ hc0 rfl).mono ?_
      rintro e w' ⟨rfl, rfl⟩
      go_wp2_with fail
      refine (may_yes g (N : Int) _ hc0 (by omega)).mono ?_
      rintro e w' ⟨rfl, rfl⟩
      go_wp2_with fail
      refine hnx.mono ?_
      rintro e w1 ⟨A1, c1, rfl, hs1, hc1', hc2', hT, hB⟩
      obtain ⟨m, hm⟩ : ∃ m, m = r.2.length := ⟨_, rfl⟩
      rw [← hm]
      go_wp2_with fail
      go_loop [5, 6, 7, 23] (fun v x y i => ∃ k : Nat, k ≤ r.2.length ∧ i = .int .i64 k ∧ v = .int .u64 (valLE (r.2.take k) : Nat)) (fun _ _ _ i => r.2.length - (intOf i).toNat)
      case atStart => exact ⟨0, by omega, rfl, rfl⟩
      case round =>
        obtain ⟨k, hk, rfl, rfl⟩ := hrel
        by_cases hlt : k < r.2.length
        · have hd : decide ((k : Int) < m) = true := by simp; omega
          obtain ⟨a, rfl, hc⟩ := hs1.at hlt
          have hbl := byte_lt r.2[k]
          go_wp2_with fail
          exact ⟨⟨k + 1, hlt, by go_num, by rw [or_add _ _ k (by omega) (by have := valLE_lt (r.2.take k); rwa [List.length_take, Nat.min_eq_left hk] at this), List.take_succ_eq_append_getElem hlt, valLE_snoc, List.length_take, Nat.min_eq_left hk]⟩, by simp [intOf]; omega⟩
        · obtain rfl : k = m := by omega
          have hd : decide ((k : Int) < k) = false := by simp
          have hfull : r.2.take k = r.2 := by rw [hm]; exact List.take_length
          rw [hfull]
          go_wp2_with fail
          go_ret
          exact ⟨rfl, hT, hB⟩
  · have d0 : (err == 0) = false := by simpa using h0
    rw [takeU, if_pos h0]
    go_enter Tryd.func49, Tryd.ntmps49
    go_wp2_with fail
    refine (tready_is g err false _ hc0 d0).mono ?_
    rintro e w' ⟨rfl, rfl⟩
    go_wp2_with fail
    go_ret
    exact ⟨rfl, h, But.refl _ _⟩
end Go.Proofs.YtlcbfikmljmlpaaDoor
/- A taker's text beside a row that grows. -/
namespace Go.Proofs.YtlcbfikmljmlpaaDoor
set_option linter.unusedVariables false
open Go.RowKit
theorem takeU_good {s : Int × Nat} {l : List UInt8} {n : Int} (h : (takeU s l n).1.1 = 0) : s.1 = 0 ∧ 1 ≤ n ∧ n ≤ 8 ∧ takeU s l n = ((0, s.2 + n.toNat), (l.drop s.2).take n.toNat) ∧ n.toNat ≤ l.length - s.2 := by
  unfold takeU at h ⊢
  by_cases h0 : s.1 ≠ 0
  · rw [if_pos h0] at h; exact absurd h h0
  · rw [if_neg h0] at h ⊢
    by_cases hn : n < 1 ∨ 8 < n
    · rw [if_pos hn] at h; simp at h
    · rw [if_neg hn] at h ⊢
      unfold tnext at h ⊢
      by_cases hl : l.length - s.2 < n.toNat
      · rw [if_pos hl] at h; simp at h
      · rw [if_neg hl]
        exact ⟨by omega, by omega, by omega, rfl, by omega⟩
/-- what a taker gives of a text behind a field of n bytes -/
def textR (s : Int × Nat) (l : List UInt8) (n : Int) : (Int × Nat) × List UInt8 :=
  if s.1 ≠ 0 then (s, []) else if (takeU s l n).1.1 ≠ 0 then (((takeU s l n).1.1, s.2), [])
  else if l.length - (takeU s l n).1.2 < valLE (takeU s l n).2 then ((10, s.2), []) else ((0, (takeU s l n).1.2 + valLE (takeU s l n).2), (l.drop (takeU s l n).1.2).take (valLE (takeU s l n).2))
def TextPostRB (w : World) (g : Nat) (l : List UInt8) (B : Nat) (r : (Int × Nat) × List UInt8) (e : Ending) (w' : World) : Prop :=
  e = .returned (.string ⟨r.2.toArray⟩) ∧ TkB w' g r.1.1 r.1.2 l B ∧ But (Only g) w w'
theorem takeU_bad {s : Int × Nat} {l : List UInt8} {n : Int} (h : (takeU s l n).1.1 ≠ 0) : takeU s l n = (((takeU s l n).1.1, s.2), []) := by
  unfold takeU at h ⊢
  by_cases h0 : s.1 ≠ 0
  · rw [if_pos h0]
  · rw [if_neg h0] at h ⊢
    by_cases hn : n < 1 ∨ 8 < n
    · rw [if_pos hn]
    · rw [if_neg hn] at h ⊢
      unfold tnext at h ⊢
      by_cases hl : l.length - s.2 < n.toNat
      · rw [if_pos hl]
      · rw [if_neg hl] at h; simp at h
theorem takeU_len (s : Int × Nat) (l : List UInt8) (n : Int) : (takeU s l n).2.length ≤ 8 := by
  unfold takeU
  split
  · simp
  · split
    · simp
    · unfold tnext
      split
      · simp
      · simp; omega
set_option maxHeartbeats 4000000 in
theorem ttextB_any (g : Nat) (err : Int) (p : Nat) (n : Int) (l : List UInt8) (w : World) (B : Nat) (h : TkB w g err p l B) (hlen : l.length ≤ 140737488355328) :
    Calls Tryd.prog 50 #[.pointer (some ⟨g, 0, none⟩), .int .i64 n] w (TextPostRB w g l B (textR (err, p) l n)) := by
  obtain ⟨A, c, hc0, hc1, hc2, _, _, _, _, hf⟩ := h.tk.cells
  by_cases he : err = 0
  case neg =>
    have d0 : (err == 0) = false := by simpa using he
    rw [textR, if_pos he]
    go_enter Tryd.func50, Tryd.ntmps50
    go_wp2_with fail
    refine (tready_is g err false _ hc0 d0).mono ?_
    rintro e w' ⟨rfl, rfl⟩
    go_wp2_with fail
    go_ret
    exact ⟨rfl, h, But.refl _ _⟩
  subst he
  have hU := takerUB_any g 0 p n l w B h hlen
  by_cases hu : (takeU (0, p) l n).1.1 ≠ 0
  · have hub := takeU_bad hu
    rw [textR, if_neg (by simp), if_pos hu]
    obtain ⟨E, hE⟩ : ∃ E, E = (takeU (0, p) l n).1.1 := ⟨_, rfl⟩
    rw [← hE] at hub hu ⊢
    rw [hub] at hU
    unfold UPostB at hU
    have HU := hid hU
    have dE : (E == 0) = false := by simpa using hu
    clear hU hub hE hu
    go_enter Tryd.func50, Tryd.ntmps50
    go_wp2_with fail
    refine (tready_is g 0 true _ hc0 rfl).mono ?_
    rintro e w' ⟨rfl, rfl⟩
    go_wp2_with fail
    refine HU.out.mono ?_
    rintro e w1 ⟨rfl, hT, hB⟩
    clear hc0 hc1 hc2 hf
    obtain ⟨A1, c1, hc0, hc1, hc2, _, _, _, _, hf⟩ := hT.tk.cells
    have hf2 := hf 2
    go_wp2_with fail
    go_quiet ((go_at_call 70; refine Calls.quiet_of_same (same (tready_is g E false _ ?_ dE)); exact hc0))
    have hdr : Below w1.heap.size w1 (w1.drewN nq) := ⟨rfl, rfl, rfl, Nat.le_refl _, fun _ _ => rfl⟩
    have hTd := (hT.below hdr).setAt p (by obtain ⟨_, _, _, _, _, _, h3, _⟩ := h.tk; exact h3)
    have hcd : (w1.drewN nq).cell? ⟨g, 0, none⟩ = some (.int .i64 E) := hc0
    have hcd2 : (w1.drewN nq).cell? ⟨g, 2, none⟩ = some (.int .i64 (p : Int)) := hc2
    have hfd2 : (w1.drewN nq).frozen? ⟨g, 2, none⟩ = false := hf2
    have hBB : But (Only g) w (w1.drewN nq) := hB.trans (But.of_below (R := fun _ => False) hdr) (fun n h => h.elim)
    clear hc0 hc1 hc2 hf hf2 hT hB hdr
    generalize w1.drewN nq = w2 at *
    go_wp2_with fail
    refine (tready_is g E false _ hcd dE).mono ?_
    rintro e w' ⟨rfl, rfl⟩
    go_wp2_with fail
    go_ret
    exact ⟨rfl, hTd.1, hBB.trans hTd.2 (fun n h => .inl h)⟩
  obtain ⟨_, hn1, hn8, hr, hle⟩ := takeU_good (s := (0, p)) (l := l) (n := n) (by omega)
  obtain ⟨N, rfl⟩ := Int.eq_ofNat_of_zero_le (show 0 ≤ n by omega)
  rw [textR, if_neg (by simp), if_neg hu]
  rw [show ((N : Int)).toNat = N from rfl] at hr hle
  rw [hr] at hU ⊢
  clear hu hr
  have hpN : p + N ≤ l.length := by
    obtain ⟨_, _, _, _, _, _, h3, _⟩ := h.tk
    simp only at hle
    omega
  have hv8 : valLE ((l.drop p).take N) < 18446744073709551616 := by
    have := valLE_lt ((l.drop p).take N)
    have h8 : ((l.drop p).take N).length ≤ 8 := by rw [List.length_take]; omega
    have := Nat.pow_le_pow_right (show 0 < 256 by omega) h8
    omega
  unfold UPostB at hU
  simp only at hU hle ⊢
  obtain ⟨V, hV⟩ : ∃ V, V = valLE ((l.drop p).take N) := ⟨_, rfl⟩
  rw [← hV] at hU hv8 ⊢
  have HU := hid hU
  have HLE := hid hle
  clear hU hV hle
  by_cases hlt : l.length - (p + N) < V
  · rw [if_pos hlt]
    have hd : decide (((l.length : Int) - ((p + N : Nat) : Int)) < (V : Int)) = true := by simp; omega
    have hd2 : decide (((l.length : Int) - ((p : Int) + (N : Int))) < (V : Int)) = true := by simp; omega
    have hg1 : 0 ≤ (l.length : Int) - ((p : Int) + (N : Int)) := by omega
    clear hlt
    go_enter Tryd.func50, Tryd.ntmps50
    go_wp2_with fail
    refine (tready_is g 0 true _ hc0 rfl).mono ?_
    rintro e w' ⟨rfl, rfl⟩
    go_wp2_with fail
    refine HU.out.mono ?_
    rintro e w1 ⟨rfl, hT, hB⟩
    clear hc0 hc1 hc2 hf
    obtain ⟨A1, c1, hc0, hc1, hc2, _, _, _, _, hf⟩ := hT.tk.cells
    have hf0 := hf 0
    go_wp2_with fail
    go_quiet ((go_at_call 70; refine Calls.quiet_of_same (same (tready_is g 0 true _ ?_ rfl)); exact hc0))
    have hdr : Below w1.heap.size w1 (w1.drewN nq) := ⟨rfl, rfl, rfl, Nat.le_refl _, fun _ _ => rfl⟩
    have hTd := (hT.below hdr).setErr 10
    have hTe := hTd.1.setAt p (by omega)
    have hcd : (w1.drewN nq).cell? ⟨g, 0, none⟩ = some (.int .i64 0) := hc0
    have hfd : (w1.drewN nq).frozen? ⟨g, 0, none⟩ = false := hf0
    have hBB : But (Only g) w (w1.drewN nq) := hB.trans (But.of_below (R := fun _ => False) hdr) (fun n h => h.elim)
    obtain ⟨A2, c2, k0, k1, k2, _, _, _, _, kf⟩ := hTd.1.tk.cells
    have kf2 := kf 2
    clear hc0 hc1 hc2 hf hf0 hT hB hdr
    generalize w1.drewN nq = w2 at *
    go_wp2_with fail
    refine (fail_ok g 10 w2 hcd hfd).mono ?_
    rintro e w' ⟨rfl, rfl⟩
    go_wp2_with fail
    refine (tready_is g 10 false _ k0 rfl).mono ?_
    rintro e w' ⟨rfl, rfl⟩
    go_wp2_with fail
    go_ret
    exact ⟨rfl, hTe.1, (hBB.trans hTd.2 (fun n h => .inl h)).trans hTe.2 (fun n h => .inl h)⟩
  · rw [if_neg hlt]
    have hd : decide (((l.length : Int) - ((p + N : Nat) : Int)) < (V : Int)) = false := by simp; omega
    have hd2 : decide (((l.length : Int) - ((p : Int) + (N : Int))) < (V : Int)) = false := by simp; omega
    have hg1 : 0 ≤ (l.length : Int) - ((p : Int) + (N : Int)) := by omega
    have hVl : V ≤ l.length := by omega
    have HTN := hid (show tnext (p + N) l V = ((0, p + N + V), (l.drop (p + N)).take V) by unfold tnext; rw [if_neg hlt])
    generalize (l.drop (p + N)).take V = s at *
    clear hlt
    go_enter Tryd.func50, Tryd.ntmps50
    go_wp2_with fail
    refine (tready_is g 0 true _ hc0 rfl).mono ?_
    rintro e w' ⟨rfl, rfl⟩
    go_wp2_with fail
    refine HU.out.mono ?_
    rintro e w1 ⟨rfl, hT, hB⟩
    clear hc0 hc1 hc2 hf
    obtain ⟨A1, c1, hc0, hc1, hc2, _, _, _, _, hf⟩ := hT.tk.cells
    go_wp2_with fail
    go_quiet ((go_at_call 70; refine Calls.quiet_of_same (same (tready_is g 0 true _ ?_ rfl)); exact hc0))
    have hdr : Below w1.heap.size w1 (w1.drewN nq) := ⟨rfl, rfl, rfl, Nat.le_refl _, fun _ _ => rfl⟩
    have hTd := hT.below hdr
    have HN2 := hid (tnextB_any g (p + N) V l (w1.drewN nq) B hTd hlen (by omega))
    rw [HTN.out] at HN2
    have hcd : (w1.drewN nq).cell? ⟨g, 0, none⟩ = some (.int .i64 0) := hc0
    have hBB : But (Only g) w (w1.drewN nq) := hB.trans (But.of_below (R := fun _ => False) hdr) (fun n h => h.elim)
    clear hc0 hc1 hc2 hf hT hB hdr hTd
    generalize w1.drewN nq = w2 at *
    go_wp2_with fail
    refine (tready_is g 0 true _ hcd rfl).mono ?_
    rintro e w' ⟨rfl, rfl⟩
    go_wp2_with fail
    refine HN2.out.mono ?_
    rintro e w3 ⟨A3, c3, rfl, hs3, h31, h32, hT3, hB3⟩
    have hcv := conv_bs A3 c3 _ w3 hs3
    have hfin : TextPostRB w g l B ((0, p + N + V), s) (.returned (.string ⟨s.toArray⟩)) w3 := ⟨rfl, hT3, hBB.trans hB3 (fun n h => .inl h)⟩
    go_wp2_with fail
    go_ret
    exact hfin
end Go.Proofs.YtlcbfikmljmlpaaDoor
/- Bytes of a number, and the number of bytes: each from the other. -/
namespace Go.Proofs.YtlcbfikmljmlpaaDoor
set_option linter.unusedVariables false
open Go.RowKit
theorem bytesLE_cons (v n : Nat) : bytesLE v (n + 1) = UInt8.ofNat (v % 256) :: bytesLE (v / 256) n := by
  unfold bytesLE
  rw [List.range_succ_eq_map, List.map_cons, List.map_map]
  congr 1
  · simp
  · apply List.map_congr_left
    intro i _
    simp only [Function.comp, Nat.pow_succ, Nat.mul_comm (256 ^ i), Nat.div_div_eq_div_mul]
theorem bytesLE_val (l : List UInt8) : bytesLE (valLE l) l.length = l := by
  induction l with
  | nil => rfl
  | cons x l ih =>
    have h := x.toNat_lt
    have e : valLE (x :: l) = x.toNat + 256 * valLE l := rfl
    rw [List.length_cons, bytesLE_cons, e, show (x.toNat + 256 * valLE l) % 256 = x.toNat by omega, show (x.toNat + 256 * valLE l) / 256 = valLE l by omega, ih]
    simp
theorem valLE_of (v n : Nat) (h : v < 256 ^ n) : valLE (bytesLE v n) = v := by
  induction n generalizing v with
  | zero => simp at h; subst h; rfl
  | succ n ih =>
    have h2 : v / 256 < 256 ^ n := by rw [Nat.pow_succ] at h; exact Nat.div_lt_of_lt_mul (by rw [Nat.mul_comm]; exact h)
    have e : valLE (bytesLE v (n + 1)) = (UInt8.ofNat (v % 256)).toNat + 256 * valLE (bytesLE (v / 256) n) := by rw [bytesLE_cons]; rfl
    rw [e, ih _ h2, UInt8.toNat_ofNat_of_lt' (by show v % 256 < 256; omega)]
    omega
/-- a field that stands behind p bytes -/
theorem fld_at (P X R : List UInt8) (p n : Nat) (hp : P.length = p) (hn : X.length = n) : ((P ++ (X ++ R)).drop p).take n = X := by
  subst hp hn; simp
/-- a row of the call's own has room for what it holds -/
theorem own_room {w : World} {base size n c : Nat} {e : TypeId} {A : Option Addr} {xs : List Value} (h : w.ownsRow base e size (.slice A n c) n xs) : n ≤ c ∧ c ≤ maxLen := by
  rcases h.2 with ⟨h1, h0⟩ | ⟨g, cap, cur, h1, _, _, h4, h5, _⟩
  · injection h1 with _ _ h3
    subst h3; subst h0; exact ⟨Nat.le_refl _, Nat.zero_le _⟩
  · injection h1 with _ _ h3
    subst h3; exact ⟨h4, h5⟩
end Go.Proofs.YtlcbfikmljmlpaaDoor
