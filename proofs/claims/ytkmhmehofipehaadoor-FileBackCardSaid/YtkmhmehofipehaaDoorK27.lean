/- A slice of tags that is handed in. -/
import Derived.Test.YtkmhmehofipehaaDoorK9
import Derived.Test.YtkmhmehofipehaaDoorK8
import Derived.Test.YtkmhmehofipehaaDoorProg
import Derived.Lib.SmallJoins
import Derived.Test.YtkmhmehofipehaaDoorK12
import Derived.Deep.Slices
import Derived.Test.YtkmhmehofipehaaDoorRows
import Derived.MakeChecks
namespace Go.Proofs.YtkmhmehofipehaaDoor
set_option linter.unusedVariables false
open Go.RowKit
section
open Go.ChangeShapes Go.WideShapes Go.ChangeAt Go.Deep
variable {H : Type} {enc : TypeId × Value → H} {P : Program} {w : World} {base b0 : Nat} {spare : Nat → Bool} {held : Bool} {r : Reach}
/-- the tag that lies at an address -/
noncomputable def tagAt (w : World) (a : Addr) : TagV :=
  ⟨match w.cell? a with | some (.string s) => s | _ => ByteArray.empty, match w.cell? (a.add 1) with | some (.string s) => s | _ => ByteArray.empty⟩
theorem open_tags_of {t e : TypeId} {v : Value} {d : DataW H} {p : List MemPlace} (ht : P.underlying t = some (.slice e)) (f0 f1 : Field) (he : P.underlying e = some (.struct #[f0, f1]))
    (hone : oneCellFields P #[f0, f1] = true) (hC : P.cellsOf e = 2) (k0 : P.underlying f0.type = some .string) (k1 : P.underlying f1.type = some .string)
    (hv : Value.okWide P w r b0 t v) (h : DataW.Trod enc P w base spare held t v d p) :
    ∃ (A : Option Addr) (c : Nat) (l : List TagV), v = .slice A l.length c ∧ SeesT w A l ∧ l.length ≤ c ∧ c ≤ maxLen := by
  obtain ⟨A, n, c, rfl⟩ := okWide_slice ht hv
  obtain ⟨fuel, hf⟩ := h
  rcases open_slice_fields ht he hone hC hf with ⟨hcs, _⟩ | ⟨a, len, cap, m, D, Pl, hcs, _, hl, hm, hmm, _, hi⟩
  · simp [Value.cells] at hcs
    obtain ⟨rfl, rfl, rfl⟩ := hcs
    exact ⟨none, 0, [], rfl, fun i hi => by simp at hi, by simp, by simp⟩
  · simp [Value.cells] at hcs
    obtain ⟨rfl, rfl, rfl⟩ := hcs
    have hnm : n ≤ m := by rw [hmm]; split <;> omega
    have key : ∀ i, i < n → w.cell? (a.add (i * 2)) = some (.string (tagAt w (a.add (i * 2))).k) ∧ w.cell? ((a.add (i * 2)).add 1) = some (.string (tagAt w (a.add (i * 2))).v) := by
      intro i hin
      obtain ⟨ys, q, _, _, _, hg⟩ := hi i (by omega)
      obtain ⟨v0, y0, c0, _, t0⟩ := hg 0 f0 rfl
      obtain ⟨v1, y1, c1, _, t1⟩ := hg 1 f1 rfl
      obtain ⟨s0, hs0, _⟩ := DataW.trod_string k0 t0
      obtain ⟨s1, hs1, _⟩ := DataW.trod_string k1 t1
      injection hs0 with hs0 _
      injection hs1 with hs1 _
      subst hs0 hs1
      change w.cell? (a.add (i * 2 + 0)) = _ at c0
      change w.cell? (a.add (i * 2 + 1)) = _ at c1
      rw [Nat.add_zero] at c0
      rw [← addr_add] at c1
      unfold tagAt
      simp only [c0, c1]
      exact ⟨trivial, trivial⟩
    refine ⟨some a, c, (List.range n).map fun i => tagAt w (a.add (i * 2)), by simp, ?_, by simpa using hl, hm⟩
    intro i hi'
    have hin : i < n := by simpa using hi'
    obtain ⟨h0, h1⟩ := key i hin
    refine ⟨a, rfl, ?_⟩
    simp only [List.getElem_map, List.getElem_range]
    exact ⟨h0, h1⟩
set_option maxRecDepth 100000 in
theorem open_tags {v : Value} {d : DataW H} {p : List MemPlace} (hv : Value.okWide Tryd.prog w r b0 26 v) (h : DataW.Trod enc Tryd.prog w base spare held 26 v d p) :
    ∃ (A : Option Addr) (c : Nat) (l : List TagV), v = .slice A l.length c ∧ SeesT w A l ∧ l.length ≤ c ∧ c ≤ maxLen :=
  open_tags_of Tryd.underlying26 _ _ Tryd.underlying63 (by kernel_rfl) (by kernel_rfl) Tryd.underlying9 Tryd.underlying9 hv h
end
end Go.Proofs.YtkmhmehofipehaaDoor
/- Info, formats and settings that come in. -/
namespace Go.Proofs.YtkmhmehofipehaaDoor
set_option linter.unusedVariables false
open Go.ChangeShapes Go.WideShapes Go.ChangeAt Go.RowKit Go.Joins
section
variable {H : Type} {enc : TypeId × Value → H} {w : World} {base b0 : Nat} {spare : Nat → Bool} {held : Bool} {r : Reach}
set_option maxRecDepth 100000 in
theorem cellsInfo : Tryd.prog.cellsOf 25 = 6 := by kernel_rfl
set_option maxRecDepth 100000 in
theorem cellsFormat : Tryd.prog.cellsOf 23 = 3 := by kernel_rfl
set_option maxRecDepth 100000 in
theorem cellsInt : Tryd.prog.cellsOf 3 = 1 := by kernel_rfl
set_option maxRecDepth 100000 in
theorem open_info {v : Value} {d : DataW H} {p : List MemPlace} (hv : Value.okWide Tryd.prog w r b0 25 v) (h : DataW.Trod enc Tryd.prog w base spare held 25 v d p) :
    ∃ (k ch bi ra bl sh : Int), v = .agg #[.int .i64 k, .int .i64 ch, .int .i64 bi, .int .i64 ra, .int .i64 bl, .int .i64 sh] ∧ True := by
  obtain ⟨cs, rfl, hsz⟩ := okWide_struct Tryd.underlying25 hv
  obtain ⟨l⟩ := cs
  match l, hsz.trans cellsInfo with
  | [v0, v1, v2, v3, v4, v5], _ =>
    obtain ⟨fuel, hf⟩ := h
    obtain ⟨xs, n, _, hx, _, hlen, hg⟩ := DataW.trod_struct Tryd.underlying25 hf
    match xs, hlen with
    | [y0, y1, y2, y3], _ =>
      have h0 := hg 0 _ rfl
      have h1 := hg 1 _ rfl
      have h2 := hg 2 _ rfl
      have h3 := hg 3 _ rfl
      simp [Value.cells, cellsFormat, cellsInt] at h0 h1 h2 h3
      obtain ⟨k, rfl, _⟩ := int_raw Tryd.underlying3 h0
      obtain ⟨bl, rfl, _⟩ := int_raw Tryd.underlying3 h2
      obtain ⟨sh, rfl, _⟩ := int_raw Tryd.underlying3 h3
      obtain ⟨zs, n2, _, hx2, _, hlen2, hg2⟩ := DataW.trod_struct Tryd.underlying23 h1
      match zs, hlen2 with
      | [z0, z1, z2], _ =>
        have g0 := hg2 0 _ rfl
        have g1 := hg2 1 _ rfl
        have g2 := hg2 2 _ rfl
        simp [cellsInt] at g0 g1 g2
        obtain ⟨ch, rfl, _⟩ := int_raw Tryd.underlying3 g0
        obtain ⟨bi, rfl, _⟩ := int_raw Tryd.underlying3 g1
        obtain ⟨ra, rfl, _⟩ := int_raw Tryd.underlying3 g2
        exact ⟨k, ch, bi, ra, bl, sh, rfl, trivial⟩
end
end Go.Proofs.YtkmhmehofipehaaDoor
/- Slices of bytes that come in. -/
namespace Go.Proofs.YtkmhmehofipehaaDoor
set_option linter.unusedVariables false
open Go.ChangeShapes Go.WideShapes Go.ChangeAt Go.RowKit Go.Joins Go.Deep
section
variable {H : Type} {enc : TypeId × Value → H} {w : World} {base b0 : Nat} {spare : Nat → Bool} {held : Bool} {r : Reach}
set_option maxRecDepth 100000 in
theorem cellsBytesK : Tryd.prog.cellsOf 32 = 1 := by kernel_rfl
set_option maxRecDepth 100000 in
theorem open_blocks {v : Value} {d : DataW H} {p : List MemPlace} (hv : Value.okWide Tryd.prog w r b0 27 v) (h : DataW.Trod enc Tryd.prog w base spare held 27 v d p) :
    ∃ (A : Option Addr) (c : Nat) (L : List BlkV), v = .slice A L.length c ∧ SeesK w A L ∧ L.length ≤ c ∧ c ≤ maxLen := by
  obtain ⟨A, n, c, rfl⟩ := okWide_slice Tryd.underlying27 hv
  obtain ⟨fuel, hf⟩ := h
  rcases open_slice Tryd.underlying27 hf with ⟨hcs, _⟩ | ⟨a, len, cap, m, q, D, Pl, hcs, _, hl, hm, hmm, _, hi⟩
  · simp [Value.cells] at hcs
    obtain ⟨rfl, rfl, rfl⟩ := hcs
    exact ⟨none, 0, [], rfl, ⟨Sees.nil _ _, by simp⟩, by simp, by simp⟩
  · simp [Value.cells] at hcs
    obtain ⟨rfl, rfl, rfl⟩ := hcs
    have key : ∀ i, i < n → ∃ x : BlkV, w.cell? (a.add i) = some x.v ∧ SeesB w x.A x.l ∧ x.l.length ≤ x.c ∧ x.c ≤ maxLen := by
      intro i hlt
      obtain ⟨cs', hc, ht⟩ := hi i (by rw [hmm]; split <;> omega)
      rw [cellsBytesK, Nat.mul_one] at hc
      obtain ⟨_, hcl, hat⟩ := World.cells?_some hc
      obtain ⟨u, rfl⟩ := List.length_eq_one_iff.1 hcl
      have h0 := hat 0 (by omega)
      obtain ⟨A, c, zs, rfl, hs, hc1, hc2, hw⟩ := ints_raw Tryd.underlying32 Tryd.underlying5 (by kernel_rfl) ht
      refine ⟨⟨A, c, zs.map fun z => UInt8.ofNat z.toNat⟩, ?_, ?_, by simpa using hc1, hc2⟩
      · unfold BlkV.v
        simp only [List.length_map]
        exact h0
      · have e : (zs.map fun z => UInt8.ofNat z.toNat).map byteV = zs.map fun z => Value.int .u8 z := by
          rw [List.map_map]
          apply List.map_congr_left
          intro z hz
          have := wf_u8 (hw z hz)
          simp [byteV]; omega
        unfold SeesB
        rw [e]
        exact hs
    let F : Nat → BlkV := fun i => if h : i < n then Classical.choose (key i h) else ⟨none, 0, []⟩
    have hF : ∀ i, i < n → w.cell? (a.add i) = some (F i).v ∧ SeesB w (F i).A (F i).l ∧ (F i).l.length ≤ (F i).c ∧ (F i).c ≤ maxLen := by
      intro i hlt
      have e : F i = Classical.choose (key i hlt) := dif_pos hlt
      rw [e]
      exact Classical.choose_spec (key i hlt)
    refine ⟨some a, c, (List.range n).map F, by simp, ⟨?_, ?_⟩, by simpa using hl, hm⟩
    · intro i v hv
      rw [List.map_map, List.getElem?_map] at hv
      have hlt : i < n := by
        rcases Nat.lt_or_ge i n with h | h
        · exact h
        · rw [List.getElem?_eq_none (by simp; omega)] at hv; cases hv
      rw [List.getElem?_range hlt] at hv
      injection hv with hv
      exact ⟨a, rfl, by rw [← hv]; exact (hF i hlt).1⟩
    · intro x hx
      obtain ⟨i, hi', rfl⟩ := List.mem_map.1 hx
      exact (hF i (by simpa using hi')).2
end
end Go.Proofs.YtkmhmehofipehaaDoor
/- What the rows lay of utf8's two tables: layer 29. -/
namespace Go.Proofs.YtkmhmehofipehaaDoor
set_option linter.unusedVariables false
open Go.RowKit Go.Shelf Go.Lib Go.Proofs
set_option maxRecDepth 100000 in
theorem tabs_of {w : World} (h : laidMetH Tryd.prog Rows.fileBuildsRow.laid w) : Tabs w := by
  rw [MakeChecks.laidMetH_plain _ _ _ (by kernel_rfl)] at h
  have e1 : Rows.laid_unicode_utf8_first = firstData := by kernel_rfl
  have e2 : (Rows.laid_unicode_utf8_acceptRanges : DataW Unit) = acceptData := by kernel_rfl
  have h4 := Lib.laidMet.reads h (.head _)
  have h3 := Lib.laidMet.reads h (.tail _ (.head _))
  rw [e1] at h3
  rw [e2] at h4
  exact utf8Tabs_of_readsT (U8Types.of196 laysValid) extra h3 h4
end Go.Proofs.YtkmhmehofipehaaDoor
