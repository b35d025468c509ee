/- What is cut, and joined: the plain law. -/
import Derived.Test.YtfinefhebffpcaaLaw05Weaves
import Derived.Test.YtfinefhebffpcaaPcmJoin
import Derived.Test.YtfinefhebffpcaaPcmCut
namespace Go.Proofs.Ytfinefhebffpcaa
set_option linter.unusedVariables false
open Go.RowKit
theorem partL_join (l : List Int) (F T U : Nat) (h1 : F ≤ T) (h2 : T ≤ U) : partL l F T ++ partL l T U = partL l F U := by
  unfold partL
  have e : U - F = (T - F) + (U - T) := by omega
  rw [e, List.take_add, List.drop_drop, show F + (T - F) = T by omega]
theorem partL_all (l : List Int) : partL l 0 l.length = l := by simp [partL]
def cutsL (L : List Chan) (F T : Nat) : List (List Int) := (List.range L.length).map (cutL L F T)
theorem cuts_all {L : List Chan} {C : Nat} (h : ∀ x ∈ L, x.l.length = C) : cutsL L 0 C = ints L := by
  apply List.ext_getElem (by simp [cutsL, ints])
  intro i h1 h2
  have hi : i < L.length := by simpa [cutsL] using h1
  simp only [cutsL, List.getElem_map, List.getElem_range, ints]
  rw [cutL_at L 0 C i hi, ← h L[i] (List.getElem_mem hi), partL_all]
theorem loud_part {n : Nat} {l : List Int} (h : loudI n l = false) (F T : Nat) : loudI n (partL l F T) = false := by
  unfold loudI at h ⊢
  rw [List.any_eq_false] at h ⊢
  intro y hy
  unfold partL at hy
  exact h y (List.mem_of_mem_drop (List.mem_of_mem_take hy))
theorem check_of {ch bi ra : Int} {X : List Chan} {C : Nat} (hr : rightF ch bi ra = true) (hn : (X.length : Int) = ch) (hC : C ≤ 4294967295) (hall : ∀ x ∈ X, x.l.length = C ∧ loudI bi.toNat x.l = false) : checkV ch bi ra X = 0 ∧ countL X = C := by
  have hr2 := hr
  unfold rightF at hr2
  have hr2 := of_decide_eq_true hr2
  have hcount : countL X = C := by
    cases X with
    | nil => simp at hn; omega
    | cons x X => exact (hall x (by simp)).1
  refine ⟨?_, hcount⟩
  unfold checkV
  rw [hr, if_neg (by simp), if_neg (by omega), if_neg, if_neg]
  · rw [List.any_eq_true]
    rintro ⟨x, hx, h⟩
    rw [(hall x hx).2] at h
    cases h
  · rw [List.any_eq_true]
    rintro ⟨x, hx, h⟩
    rw [(hall x hx).1, hcount] at h
    simp at h
/-- a part of right sound is right sound -/
theorem cuts_check {ch bi ra : Int} {L Y : List Chan} (h : checkV ch bi ra L = 0) {F T : Nat} (h1 : F ≤ T) (h2 : T ≤ countL L) (hi : ints Y = cutsL L F T) : Y.length = L.length ∧ checkV ch bi ra Y = 0 ∧ countL Y = T - F ∧ ∀ x ∈ Y, x.l.length = T - F := by
  obtain ⟨hr, hch, hC, hall⟩ := check_ok h
  have hl : Y.length = L.length := by
    have := congrArg List.length hi
    simpa [ints, cutsL] using this
  have hY : ∀ x ∈ Y, x.l.length = T - F ∧ loudI bi.toNat x.l = false := by
    intro x hx
    have hx2 : x.l ∈ ints Y := List.mem_map_of_mem hx
    rw [hi] at hx2
    obtain ⟨k, hk, hxe⟩ := List.mem_map.1 hx2
    have hk : k < L.length := by simpa using hk
    rw [cutL_at L F T k hk] at hxe
    obtain ⟨e1, e2⟩ := hall L[k] (List.getElem_mem hk)
    rw [← hxe]
    exact ⟨partL_len _ F T h1 (by omega), loud_part e2 F T⟩
  obtain ⟨k1, k2⟩ := check_of hr (by rw [hl]; exact hch) (show T - F ≤ 4294967295 by omega) hY
  exact ⟨hl, k1, k2, fun x hx => (hY x hx).1⟩
theorem both_zero {ch bi ra : Int} {X Y : List Chan} (h1 : checkV ch bi ra X = 0) (h2 : checkV ch bi ra Y = 0) : bothV ch bi ra X ch bi ra Y = 0 := by
  unfold bothV
  rw [h1, h2]
  simp [sameF]
theorem cat_cuts {L X Y : List Chan} {F T U : Nat} (h1 : F ≤ T) (h2 : T ≤ U) (hx : ints X = cutsL L F T) (hy : ints Y = cutsL L T U) : (List.range X.length).map (catL X Y) = cutsL L F U := by
  have hl : X.length = L.length := by
    have := congrArg List.length hx
    simpa [ints, cutsL] using this
  unfold cutsL
  rw [hl]
  apply List.map_congr_left
  intro k hk
  have hk : k < L.length := by simpa using hk
  unfold catL
  rw [hx, hy]
  have e1 : (cutsL L F T).getD k [] = cutL L F T k := by simp [cutsL, List.getD, hk]
  have e2 : (cutsL L T U).getD k [] = cutL L T U k := by simp [cutsL, List.getD, hk]
  rw [e1, e2, cutL_at L F T k hk, cutL_at L T U k hk, cutL_at L F U k hk, partL_join _ F T U h1 h2]
/-- parts of right sound that lie side by side are joined -/
theorem join_cuts (ch bi ra : Int) (L : List Chan) (h : checkV ch bi ra L = 0) (hL : L.length ≤ maxLen) (F T U : Nat) (h1 : F ≤ T) (h2 : T ≤ U) (h3 : U ≤ countL L) (A B : Option Addr) (c d : Nat) (X Y : List Chan) (W : World) (hX : SeesL W A X) (hY : SeesL W B Y) (hx : ints X = cutsL L F T) (hy : ints Y = cutsL L T U) :
    Calls Try.prog 25 #[.agg #[.int .i64 ch, .int .i64 bi, .int .i64 ra, .slice A X.length c], .agg #[.int .i64 ch, .int .i64 bi, .int .i64 ra, .slice B Y.length d]] W (SoundSees W 0 ch bi ra (cutsL L F U)) := by
  obtain ⟨_, _, hC, _⟩ := check_ok h
  obtain ⟨x1, x2, x3, _⟩ := cuts_check h h1 (by omega) hx
  obtain ⟨y1, y2, y3, _⟩ := cuts_check h h2 h3 hy
  have hj := join_any ch bi ra A c X ch bi ra B d Y W hX hY (by rw [x1]; exact hL) (by rw [y1]; exact hL) (by rw [x3, y3]; omega)
  rw [both_zero x2 y2, cat_cuts h1 h2 hx hy] at hj
  refine hj.mono fun e w' z => ?_
  exact snd_sees z (fun _ => by simpa [cutsL] using hL) ch bi ra _ (fun _ => ⟨rfl, rfl, rfl, rfl⟩) (fun h => absurd rfl h)
theorem cut_zero {ch bi ra : Int} {L : List Chan} (h : checkV ch bi ra L = 0) {F T : Nat} (h1 : F ≤ T) (h2 : T ≤ countL L) : cutV ch bi ra L F T = 0 := by
  unfold cutV
  rw [h, if_neg (by simp), if_neg (by omega)]
theorem cut_nat {ch bi ra : Int} {L : List Chan} {f t : Int} (h : cutV ch bi ra L f t = 0) : checkV ch bi ra L = 0 ∧ ∃ F T : Nat, f = (F : Int) ∧ t = (T : Int) ∧ F ≤ T ∧ T ≤ countL L := by
  unfold cutV at h
  by_cases h0 : checkV ch bi ra L = 0
  · rw [if_neg (by simpa using h0)] at h
    by_cases h1 : f < 0 ∨ t < f ∨ (countL L : Int) < t
    · rw [if_pos h1] at h; simp at h
    · exact ⟨h0, f.toNat, t.toNat, by omega, by omega, by omega, by omega⟩
  · rw [if_pos h0] at h; exact absurd h h0
/-- seen in rows that were there before a row was made, and so behind a store of that row -/
theorem Sees.rowOld {w0 w : World} {A : Option Addr} {xs : List Value} (h0 : Sees w0 A xs) (h : Sees w A xs) (q : Nat) (hq : w0.heap.size ≤ q) (new : Array Value) : Sees (w.setRow q new) A xs := by
  intro i v hv
  obtain ⟨a0, ha0, hc0⟩ := h0 i v hv
  obtain ⟨a, ha, hc⟩ := h i v hv
  rw [ha] at ha0
  injection ha0 with ha0
  subst ha0
  have hlt := block_lt_of_cell hc0
  rw [addr_block] at hlt
  refine ⟨a, ha, (World.cell?_of_block (w := w) ?_).trans hc⟩
  exact setRow_other w q _ new (by rw [addr_block]; omega)
theorem SeesL.rowOld {w0 w : World} {A : Option Addr} {L : List Chan} (h0 : SeesL w0 A L) (h : SeesL w A L) (q : Nat) (hq : w0.heap.size ≤ q) (new : Array Value) : SeesL (w.setRow q new) A L :=
  ⟨Sees.rowOld h0.1 h.1 q hq new, fun x hx => ⟨Sees.rowOld (h0.2 x hx).1 (h.2 x hx).1 q hq new, (h.2 x hx).2⟩⟩
theorem SndAt.row {w : World} {g : Nat} {ch bi ra : Int} {A : Option Addr} {n c : Nat} (h : SndAt w g ch bi ra A n c) (q : Nat) (hq : g ≠ q) (new : Array Value) : SndAt (w.setRow q new) g ch bi ra A n c := by
  obtain ⟨h0, h1, h2, h3⟩ := h
  have e : (w.setRow q new).heap[g]? = w.heap[g]? := setRow_other w q g new hq
  exact ⟨(World.cell?_of_block (w := w) e).trans h0, (World.cell?_of_block (w := w) e).trans h1, (World.cell?_of_block (w := w) e).trans h2, (World.cell?_of_block (w := w) e).trans h3⟩
theorem SndAt.ofRow {w : World} {g : Nat} {ch bi ra : Int} {A : Option Addr} {n c : Nat} (h : w.heap[g]? = some (.cells #[.int .i64 ch, .int .i64 bi, .int .i64 ra, .slice A n c] 26 (0, 0))) : SndAt w g ch bi ra A n c := by
  refine ⟨?_, ?_, ?_, ?_⟩ <;> (rw [cell_of_row _ _ _ _ _ _ h]; rfl)
theorem cut_sees (ch bi ra : Int) (A : Option Addr) (c : Nat) (L : List Chan) (F T : Nat) (h : checkV ch bi ra L = 0) (h1 : F ≤ T) (h2 : T ≤ countL L) (W : World) (hl : SeesL W A L) (n1 : L.length ≤ maxLen) (hcap : ∀ x ∈ L, x.l.length ≤ x.c) :
    Calls Try.prog 29 #[.agg #[.int .i64 ch, .int .i64 bi, .int .i64 ra, .slice A L.length c], .int .i64 (F : Int), .int .i64 (T : Int)] W (SoundSees W 0 ch bi ra (cutsL L F T)) := by
  have hc := cut_any ch bi ra A c L F T W hl n1 hcap
  rw [cut_zero h h1 h2] at hc
  exact hc.mono fun e w' z => snd_sees z (fun _ => by simpa using n1) ch bi ra _ (fun _ => ⟨rfl, rfl, rfl, rfl⟩) (fun h => absurd rfl h)
def NewSound (w : World) (c1 b1 r1 : Int) (ll : List (List Int)) (e : Ending) (w' : World) : Prop :=
  ∃ (A : Option Addr) (c : Nat) (M : List Chan), e = .returned (.tuple #[.agg #[.int .i64 c1, .int .i64 b1, .int .i64 r1, .slice A M.length c], .int .i64 0]) ∧ SeesL w' A M ∧ ints M = ll ∧ M.length ≤ maxLen ∧ (∀ a, A = some a → w.heap.size ≤ a.block) ∧ (∀ x ∈ M, ∀ a, x.A = some a → w.heap.size ≤ a.block) ∧ Below w.heap.size w w'
theorem cut_new (ch bi ra : Int) (A : Option Addr) (c : Nat) (L : List Chan) (F T : Nat) (h : checkV ch bi ra L = 0) (h1 : F ≤ T) (h2 : T ≤ countL L) (W : World) (hl : SeesL W A L) (n1 : L.length ≤ maxLen) (hcap : ∀ x ∈ L, x.l.length ≤ x.c) :
    Calls Try.prog 29 #[.agg #[.int .i64 ch, .int .i64 bi, .int .i64 ra, .slice A L.length c], .int .i64 (F : Int), .int .i64 (T : Int)] W (NewSound W ch bi ra (cutsL L F T)) := by
  have hc := cut_fresh ch bi ra A c L F T W hl n1 hcap
  rw [cut_zero h h1 h2] at hc
  refine hc.mono fun e w' z => ?_
  unfold SndFresh at z
  rw [if_pos rfl] at z
  obtain ⟨B, d, M, rfl, hs, hi, hf1, hf2, hb⟩ := z
  refine ⟨B, d, M, rfl, hs, hi, ?_, hf1, hf2, hb⟩
  have := congrArg List.length hi
  rw [show (ints M).length = M.length by simp [ints]] at this
  rw [this]
  simpa using n1
end Go.Proofs.Ytfinefhebffpcaa
