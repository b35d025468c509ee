/- Sound that comes in, with room behind each channel. -/
import Derived.Test.YtfinefhebffpcaaOpenSound
namespace Go.Proofs.Ytfinefhebffpcaa
set_option linter.unusedVariables false
open Go.ChangeShapes Go.WideShapes Go.ChangeAt Go.RowKit Go.Joins Go.Deep
section
variable {H : Type} {enc : TypeId × Value → H} {w : World} {base b0 : Nat} {spare : Nat → Bool} {held : Bool} {r : Reach}
set_option maxRecDepth 100000 in
theorem chans_raw3 {v : Value} {y : DataW H × List MemPlace} {n : Nat} (h : DataW.trod enc Try.prog w base spare held n 24 [v] = some y) :
    ∃ (A : Option Addr) (c : Nat) (L : List Chan), v = .slice A L.length c ∧ SeesL w A L ∧ L.length ≤ maxLen ∧ ∀ x ∈ L, x.l.length ≤ x.c := by
  rcases open_slice Try.underlying24 h with ⟨hcs, _⟩ | ⟨a, len, cap, m, q, D, Pl, hcs, _, hl, hm, hmm, _, hi⟩
  · injection hcs with hcs _
    subst hcs
    exact ⟨none, 0, [], rfl, ⟨Sees.nil _ _, by simp⟩, by simp, by simp⟩
  · injection hcs with hcs _
    subst hcs
    have key : ∀ i, i < len → ∃ x : Chan, w.cell? (a.add i) = some x.v ∧ SeesI w x.A x.l ∧ x.l.length ≤ maxLen ∧ x.l.length ≤ x.c := by
      intro i hlt
      obtain ⟨cs', hc, ht⟩ := hi i (by rw [hmm]; split <;> omega)
      rw [cellsInts, Nat.mul_one] at hc
      obtain ⟨_, hcl, hat⟩ := World.cells?_some hc
      obtain ⟨u, rfl⟩ := List.length_eq_one_iff.1 hcl
      have h0 := hat 0 (by omega)
      obtain ⟨A, c, l, rfl, hs, hc1, hc2, hw⟩ := ints_raw Try.underlying34 Try.underlying3 (by kernel_rfl) ht
      exact ⟨⟨A, c, l⟩, h0, hs, Nat.le_trans hc1 hc2, hc1⟩
    let F : Nat → Chan := fun i => if h : i < len then Classical.choose (key i h) else ⟨none, 0, []⟩
    have hF : ∀ i, i < len → w.cell? (a.add i) = some (F i).v ∧ SeesI w (F i).A (F i).l ∧ (F i).l.length ≤ maxLen ∧ (F i).l.length ≤ (F i).c := by
      intro i hlt
      have e : F i = Classical.choose (key i hlt) := dif_pos hlt
      rw [e]
      exact Classical.choose_spec (key i hlt)
    refine ⟨some a, cap, (List.range len).map F, by simp, ⟨?_, ?_⟩, by simp; omega, ?_⟩
    · intro i v hv
      rw [List.map_map, List.getElem?_map] at hv
      have hlt : i < len := by
        rcases Nat.lt_or_ge i len with h | h
        · exact h
        · rw [List.getElem?_eq_none (by simp; omega)] at hv; cases hv
      rw [List.getElem?_range hlt] at hv
      injection hv with hv
      exact ⟨a, rfl, by rw [← hv]; exact (hF i hlt).1⟩
    · intro x hx
      obtain ⟨i, hi', rfl⟩ := List.mem_map.1 hx
      have := hF i (by simpa using hi')
      exact ⟨this.2.1, this.2.2.1⟩
    · intro x hx
      obtain ⟨i, hi', rfl⟩ := List.mem_map.1 hx
      exact (hF i (by simpa using hi')).2.2.2
set_option maxRecDepth 100000 in
theorem open_sound3 {v : Value} {d : DataW H} {p : List MemPlace} (hv : Value.okWide Try.prog w r b0 26 v) (h : DataW.Trod enc Try.prog w base spare held 26 v d p) :
    ∃ (ch bi ra : Int) (A : Option Addr) (c : Nat) (L : List Chan), v = .agg #[.int .i64 ch, .int .i64 bi, .int .i64 ra, .slice A L.length c] ∧ SeesL w A L ∧ L.length ≤ maxLen ∧ ∀ x ∈ L, x.l.length ≤ x.c := by
  obtain ⟨cs, rfl, hsz⟩ := okWide_struct Try.underlying26 hv
  obtain ⟨l⟩ := cs
  match l, hsz.trans cellsSound with
  | [v0, v1, v2, v3], _ =>
    obtain ⟨fuel, hf⟩ := h
    obtain ⟨xs, n, _, hx, _, hlen, hg⟩ := DataW.trod_struct Try.underlying26 hf
    match xs, hlen with
    | [y0, y1], _ =>
      have h0 := hg 0 _ rfl
      have h1 := hg 1 _ rfl
      simp [Value.cells, cellsFormat, cellsChans] at h0 h1
      obtain ⟨zs, n2, _, hx2, _, hlen2, hg2⟩ := DataW.trod_struct Try.underlying23 h0
      match zs, hlen2 with
      | [z0, z1, z2], _ =>
        have g0 := hg2 0 _ rfl
        have g1 := hg2 1 _ rfl
        have g2 := hg2 2 _ rfl
        simp [cellsInt] at g0 g1 g2
        obtain ⟨ch, rfl, w0⟩ := int_raw Try.underlying3 g0
        obtain ⟨bi, rfl, w1⟩ := int_raw Try.underlying3 g1
        obtain ⟨ra, rfl, w2⟩ := int_raw Try.underlying3 g2
        obtain ⟨A, c, L, rfl, hs, hl, hw⟩ := chans_raw3 h1
        exact ⟨ch, bi, ra, A, c, L, rfl, hs, hl, hw⟩
end
end Go.Proofs.Ytfinefhebffpcaa
