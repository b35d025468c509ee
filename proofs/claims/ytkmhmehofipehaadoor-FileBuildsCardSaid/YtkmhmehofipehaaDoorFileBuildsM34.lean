/- The walk of FileBuilds. -/
import Derived.Test.YtkmhmehofipehaaDoorFileBuildsM32
import Derived.Test.YtkmhmehofipehaaDoorFileBuildsM33
import Derived.Test.YtkmhmehofipehaaDoorFileBuildsM18
import Derived.Test.YtkmhmehofipehaaDoorFileBuildsM17
import Derived.Test.YtkmhmehofipehaaDoorProg
import Derived.Test.YtkmhmehofipehaaDoorFileBuildsM16
import Derived.Lib.SmallJoins
import Derived.Test.YtkmhmehofipehaaDoorFileBuildsM26
import Derived.Deep.Slices
import Derived.Test.YtkmhmehofipehaaDoorFileBuildsM19
import Derived.Test.YtkmhmehofipehaaDoorRows
import Derived.MakeChecks
namespace Go.Proofs.YtkmhmehofipehaaDoor
set_option linter.unusedVariables false
open Go.RowKit
theorem brief_few {l : List TagV} (h : ∀ x ∈ l, x.k.size ≤ 100 ∧ x.v.size ≤ 1500) : Brief l := fun x hx => by have := h x hx; omega
namespace fileBuilds
set_option maxRecDepth 20000 in
set_option maxHeartbeats 4000000 in
theorem walk (k ch bi ra bl sh : Int) (A : Option Addr) (c : Nat) (l : List TagV) (B : Option Addr) (d : Nat) (bs : List BlkV) (sum : Int) (w : World) (h : SeesT w A l ∧ l.length ≤ c ∧ c ≤ maxLen) (h' : SeesK w B bs ∧ bs.length ≤ d ∧ d ≤ maxLen) (hsm : 0 ≤ sum ∧ sum < 4294967296) (hT : Tabs w) :
    Calls Tryd.prog 3 #[.agg #[.int .i64 k, .int .i64 ch, .int .i64 bi, .int .i64 ra, .int .i64 bl, .int .i64 sh], .slice A l.length c, .slice B bs.length d, .int .u32 sum] w fun e w' => e = .returned (.bool true) ∧ Below w.heap.size w w' := by
  obtain ⟨hl, hlc, hc⟩ := h
  obtain ⟨hk, hkc, hkd⟩ := h'
  obtain ⟨N, rfl⟩ := Int.eq_ofNat_of_zero_le hsm.1
  have hsum : N < 4294967296 := by omega
  clear hsm
  have HKN := hid known_any
  have hb : Below w.heap.size w (w.alloc (.cells #[.int .i64 k, .int .i64 ch, .int .i64 bi, .int .i64 ra, .int .i64 bl, .int .i64 sh] 25)) := (Below.refl _ w).alloc (Nat.le_refl _) _
  have hrow := heap_alloc_new w (.cells #[.int .i64 k, .int .i64 ch, .int .i64 bi, .int .i64 ra, .int .i64 bl, .int .i64 sh] 25)
  have hl0 := hl.below hb
  have hk0 := hk.below hb
  have hT0 := hT.below hb
  clear hl hk hT
  go_enter Tryd.func3, Tryd.ntmps3
  go_wp2_with fail
  generalize w.alloc (.cells #[.int .i64 k, .int .i64 ch, .int .i64 bi, .int .i64 ra, .int .i64 bl, .int .i64 sh] 25) = w0 at *
  refine (fewT_any A c l w0 hl0 ⟨hlc, hc⟩).mono ?_
  rintro e w1 ⟨b, rfl, rfl, hfl⟩
  cases b with
  | false =>
    clear hfl hl0 hk0 hT0
    go_wp2_with fail
    refine (HKN.out _).mono ?_
    rintro e wz ⟨rfl, hbz⟩
    go_wp2_with fail
    go_ret
    exact ⟨rfl, hb.trans (hbz.mono hb.size)⟩
  | true =>
    obtain ⟨n1, s1⟩ := hfl rfl
    clear hfl
    go_wp2_with fail
    refine (fewK_any B d bs w0 hk0 ⟨hkc, hkd⟩).mono ?_
    rintro e w1 ⟨b, rfl, rfl, hfk⟩
    cases b with
    | false =>
      clear hfk hl0 hk0 hT0
      go_wp2_with fail
      refine (HKN.out _).mono ?_
      rintro e wz ⟨rfl, hbz⟩
      go_wp2_with fail
      go_ret
      exact ⟨rfl, hb.trans (hbz.mono hb.size)⟩
    | true =>
      obtain ⟨n2, s2⟩ := hfk rfl
      clear hfk
      have hlm : l.length ≤ maxLen := Nat.le_trans hlc hc
      have hBr := brief_few s1
      have HB := hid (fun g W (hb : Below w0.heap.size w0 W) (ht : Tab W g) => build_any g ⟨k, ch, bi, ra, bl, sh⟩ A c l B d bs N W ht (hl0.below hb) hlc hlm hBr (hT0.below hb) (hk0.below hb) n2 s2 hsum)
      have HR := hid (fun W (hb : Below w0.heap.size w0 W) => rbuild_any ⟨k, ch, bi, ra, bl, sh⟩ A c l B d bs N W (hl0.below hb) hlc hlm hBr (hk0.below hb) n2 s2 hsum)
      generalize buildF ⟨k, ch, bi, ra, bl, sh⟩ l (bs.map BlkV.l) N = RR at *
      obtain ⟨E, L⟩ := RR
      unfold InfoV.v at HB HR
      (try simp only at HB)
      (try simp only at HR)
      have ic0 : w0.cell? ⟨w.heap.size, 0, none⟩ = some (.int .i64 k) := by rw [cell_of_row _ _ _ _ _ _ hrow]; rfl
      have ic1 : w0.cell? ⟨w.heap.size, 1, none⟩ = some (.int .i64 ch) := by rw [cell_of_row _ _ _ _ _ _ hrow]; rfl
      have ic2 : w0.cell? ⟨w.heap.size, 2, none⟩ = some (.int .i64 bi) := by rw [cell_of_row _ _ _ _ _ _ hrow]; rfl
      have ic3 : w0.cell? ⟨w.heap.size, 3, none⟩ = some (.int .i64 ra) := by rw [cell_of_row _ _ _ _ _ _ hrow]; rfl
      have ic4 : w0.cell? ⟨w.heap.size, 4, none⟩ = some (.int .i64 bl) := by rw [cell_of_row _ _ _ _ _ _ hrow]; rfl
      have ic5 : w0.cell? ⟨w.heap.size, 5, none⟩ = some (.int .i64 sh) := by rw [cell_of_row _ _ _ _ _ _ hrow]; rfl
      have hdr : Below w0.heap.size w0 w0.drew := (Below.refl _ _).drew
      clear hl0 hk0 hT0 hBr s1 s2 hrow
      go_wp2_with fail
      go_region_held3 (fun w' => w'.cell? ⟨w.heap.size, 0, none⟩ = some (.int .i64 k) ∧ w'.cell? ⟨w.heap.size, 1, none⟩ = some (.int .i64 ch) ∧ w'.cell? ⟨w.heap.size, 2, none⟩ = some (.int .i64 bi) ∧ w'.cell? ⟨w.heap.size, 3, none⟩ = some (.int .i64 ra) ∧ w'.cell? ⟨w.heap.size, 4, none⟩ = some (.int .i64 bl) ∧ w'.cell? ⟨w.heap.size, 5, none⟩ = some (.int .i64 sh))
        (first | exact ⟨ic0, ic1, ic2, ic3, ic4, ic5⟩ | exact ⟨fc0, fc1, fc2, fc3, fc4, fc5⟩ | exact ⟨gc0, gc1, gc2, gc3, gc4, gc5⟩ | go_keep)
        (first | (go_at_call 11; refine (make_any _).mono ?_; rintro e w1 ⟨rfl, hb1, ht1⟩; have fc0 := keep1 hb1 ic0; have fc1 := keep1 hb1 ic1; have fc2 := keep1 hb1 ic2; have fc3 := keep1 hb1 ic3; have fc4 := keep1 hb1 ic4; have fc5 := keep1 hb1 ic5) | (go_at_call 10; refine (HB.out _ _ (hdr.trans (hb1.mono hdr.size)) ht1).mono ?_; rintro e w2 ⟨v, rfl, hv⟩; obtain ⟨A2, c2, rfl, hs2, hA2, ho2, hb2⟩ := hv.parts; have gc0 := keep1 hb2 fc0; have gc1 := keep1 hb2 fc1; have gc2 := keep1 hb2 fc2; have gc3 := keep1 hb2 fc3; have gc4 := keep1 hb2 fc4; have gc5 := keep1 hb2 fc5))
      have hb12 : Below w0.heap.size w0 w2 := (hdr.trans (hb1.mono hdr.size)).trans (hb2.mono (Nat.le_trans hdr.size hb1.size))
      clear ic0 fc0 ic1 fc1 ic2 fc2 ic3 fc3 ic4 fc4 ic5 fc5 hv hA2 ho2 hb1 ht1 hb2 hdr HB
      go_wp2_with fail
      refine (HR.out w2 hb12).mono ?_
      rintro e w3 ⟨v, rfl, hv⟩
      obtain ⟨A3, c3, rfl, hs3, hA3, ho3, hb3⟩ := hv.parts
      have hs2' : SeesB w3 A2 L := Sees.below hs2 hb3
      have hbw3 := (hb.trans (hb12.mono hb.size)).trans (hb3.mono (Nat.le_trans hb.size hb12.size))
      obtain ⟨FF, hF⟩ : ∃ FF : ByteArray, FF = ⟨L.toArray⟩ := ⟨_, rfl⟩
      have hcv2 : (convert 32 9 (.slice A2 L.length c2)).run Tryd.prog w3 = .ok (.string FF) w3 := by rw [hF]; exact conv_bs A2 c2 L w3 hs2'
      have hcv3 : (convert 32 9 (.slice A3 L.length c3)).run Tryd.prog w3 = .ok (.string FF) w3 := by rw [hF]; exact conv_bs A3 c3 L w3 hs3
      have hse : (FF.toList == FF.toList) = true := beq_self_eq_true _
      clear gc0 gc1 gc2 gc3 gc4 gc5 hv hA3 ho3 hb3 hs2 hs2' hs3 hF HR hb12
      go_wp2_with fail
      refine (HKN.out _).mono ?_
      rintro e wz ⟨rfl, hbz⟩
      go_wp2_with fail
      go_ret
      exact ⟨rfl, hbw3.trans (hbz.mono hbw3.size)⟩
end fileBuilds
end Go.Proofs.YtkmhmehofipehaaDoor
/- A slice of tags that is handed in. -/
namespace Go.Proofs.YtkmhmehofipehaaDoor
set_option linter.unusedVariables false
open Go.RowKit
section
open Go.ChangeShapes Go.WideShapes Go.ChangeAt Go.Deep
variable {H : Type} {enc : TypeId × Value → H} {P : Program} {w : World} {base b0 : Nat} {spare : Nat → Bool} {held : Bool} {r : Reach}
/-- the tag that lies at an address -/
noncomputable def tagAt (w : World) (a : Addr) : TagV :=
  ⟨match w.cell? a with | some (.string s) => s | _ => ByteArray.empty, match w.cell? (a.add 1) with | some (.string s) => s | _ => ByteArray.empty⟩
theorem open_tags_of {t e : TypeId} {v : Value} {d : DataW H} {p : List MemPlace} (ht : P.underlying t = some (.slice e)) (f0 f1 : Field) (he : P.underlying e = some (.struct #[f0, f1]))
    (hone : oneCellFields P #[f0, f1] = true) (hC : P.cellsOf e = 2) (k0 : P.underlying f0.type = some .string) (k1 : P.underlying f1.type = some .string)
    (hv : Value.okWide P w r b0 t v) (h : DataW.Trod enc P w base spare held t v d p) :
    ∃ (A : Option Addr) (c : Nat) (l : List TagV), v = .slice A l.length c ∧ SeesT w A l ∧ l.length ≤ c ∧ c ≤ maxLen := by
  obtain ⟨A, n, c, rfl⟩ := okWide_slice ht hv
  obtain ⟨fuel, hf⟩ := h
  rcases open_slice_fields ht he hone hC hf with ⟨hcs, _⟩ | ⟨a, len, cap, m, D, Pl, hcs, _, hl, hm, hmm, _, hi⟩
  · simp [Value.cells] at hcs
    obtain ⟨rfl, rfl, rfl⟩ := hcs
    exact ⟨none, 0, [], rfl, fun i hi => by simp at hi, by simp, by simp⟩
  · simp [Value.cells] at hcs
    obtain ⟨rfl, rfl, rfl⟩ := hcs
    have hnm : n ≤ m := by rw [hmm]; split <;> omega
    have key : ∀ i, i < n → w.cell? (a.add (i * 2)) = some (.string (tagAt w (a.add (i * 2))).k) ∧ w.cell? ((a.add (i * 2)).add 1) = some (.string (tagAt w (a.add (i * 2))).v) := by
      intro i hin
      obtain ⟨ys, q, _, _, _, hg⟩ := hi i (by omega)
      obtain ⟨v0, y0, c0, _, t0⟩ := hg 0 f0 rfl
      obtain ⟨v1, y1, c1, _, t1⟩ := hg 1 f1 rfl
      obtain ⟨s0, hs0, _⟩ := DataW.trod_string k0 t0
      obtain ⟨s1, hs1, _⟩ := DataW.trod_string k1 t1
      injection hs0 with hs0 _
      injection hs1 with hs1 _
      subst hs0 hs1
      change w.cell? (a.add (i * 2 + 0)) = _ at c0
      change w.cell? (a.add (i * 2 + 1)) = _ at c1
      rw [Nat.add_zero] at c0
      rw [← addr_add] at c1
      unfold tagAt
      simp only [c0, c1]
      exact ⟨trivial, trivial⟩
    refine ⟨some a, c, (List.range n).map fun i => tagAt w (a.add (i * 2)), by simp, ?_, by simpa using hl, hm⟩
    intro i hi'
    have hin : i < n := by simpa using hi'
    obtain ⟨h0, h1⟩ := key i hin
    refine ⟨a, rfl, ?_⟩
    simp only [List.getElem_map, List.getElem_range]
    exact ⟨h0, h1⟩
set_option maxRecDepth 100000 in
theorem open_tags {v : Value} {d : DataW H} {p : List MemPlace} (hv : Value.okWide Tryd.prog w r b0 26 v) (h : DataW.Trod enc Tryd.prog w base spare held 26 v d p) :
    ∃ (A : Option Addr) (c : Nat) (l : List TagV), v = .slice A l.length c ∧ SeesT w A l ∧ l.length ≤ c ∧ c ≤ maxLen :=
  open_tags_of Tryd.underlying26 _ _ Tryd.underlying63 (by kernel_rfl) (by kernel_rfl) Tryd.underlying9 Tryd.underlying9 hv h
end
end Go.Proofs.YtkmhmehofipehaaDoor
/- Info, formats and settings that come in. -/
namespace Go.Proofs.YtkmhmehofipehaaDoor
set_option linter.unusedVariables false
open Go.ChangeShapes Go.WideShapes Go.ChangeAt Go.RowKit Go.Joins
section
variable {H : Type} {enc : TypeId × Value → H} {w : World} {base b0 : Nat} {spare : Nat → Bool} {held : Bool} {r : Reach}
set_option maxRecDepth 100000 in
theorem cellsInfo : Tryd.prog.cellsOf 25 = 6 := by kernel_rfl
set_option maxRecDepth 100000 in
theorem cellsFormat : Tryd.prog.cellsOf 23 = 3 := by kernel_rfl
set_option maxRecDepth 100000 in
theorem cellsInt : Tryd.prog.cellsOf 3 = 1 := by kernel_rfl
set_option maxRecDepth 100000 in
theorem open_info {v : Value} {d : DataW H} {p : List MemPlace} (hv : Value.okWide Tryd.prog w r b0 25 v) (h : DataW.Trod enc Tryd.prog w base spare held 25 v d p) :
    ∃ (k ch bi ra bl sh : Int), v = .agg #[.int .i64 k, .int .i64 ch, .int .i64 bi, .int .i64 ra, .int .i64 bl, .int .i64 sh] ∧ True := by
  obtain ⟨cs, rfl, hsz⟩ := okWide_struct Tryd.underlying25 hv
  obtain ⟨l⟩ := cs
  match l, hsz.trans cellsInfo with
  | [v0, v1, v2, v3, v4, v5], _ =>
    obtain ⟨fuel, hf⟩ := h
    obtain ⟨xs, n, _, hx, _, hlen, hg⟩ := DataW.trod_struct Tryd.underlying25 hf
    match xs, hlen with
    | [y0, y1, y2, y3], _ =>
      have h0 := hg 0 _ rfl
      have h1 := hg 1 _ rfl
      have h2 := hg 2 _ rfl
      have h3 := hg 3 _ rfl
      simp [Value.cells, cellsFormat, cellsInt] at h0 h1 h2 h3
      obtain ⟨k, rfl, _⟩ := int_raw Tryd.underlying3 h0
      obtain ⟨bl, rfl, _⟩ := int_raw Tryd.underlying3 h2
      obtain ⟨sh, rfl, _⟩ := int_raw Tryd.underlying3 h3
      obtain ⟨zs, n2, _, hx2, _, hlen2, hg2⟩ := DataW.trod_struct Tryd.underlying23 h1
      match zs, hlen2 with
      | [z0, z1, z2], _ =>
        have g0 := hg2 0 _ rfl
        have g1 := hg2 1 _ rfl
        have g2 := hg2 2 _ rfl
        simp [cellsInt] at g0 g1 g2
        obtain ⟨ch, rfl, _⟩ := int_raw Tryd.underlying3 g0
        obtain ⟨bi, rfl, _⟩ := int_raw Tryd.underlying3 g1
        obtain ⟨ra, rfl, _⟩ := int_raw Tryd.underlying3 g2
        exact ⟨k, ch, bi, ra, bl, sh, rfl, trivial⟩
end
end Go.Proofs.YtkmhmehofipehaaDoor
/- Slices of bytes that come in. -/
namespace Go.Proofs.YtkmhmehofipehaaDoor
set_option linter.unusedVariables false
open Go.ChangeShapes Go.WideShapes Go.ChangeAt Go.RowKit Go.Joins Go.Deep
section
variable {H : Type} {enc : TypeId × Value → H} {w : World} {base b0 : Nat} {spare : Nat → Bool} {held : Bool} {r : Reach}
set_option maxRecDepth 100000 in
theorem cellsBytesK : Tryd.prog.cellsOf 32 = 1 := by kernel_rfl
set_option maxRecDepth 100000 in
theorem open_blocks {v : Value} {d : DataW H} {p : List MemPlace} (hv : Value.okWide Tryd.prog w r b0 27 v) (h : DataW.Trod enc Tryd.prog w base spare held 27 v d p) :
    ∃ (A : Option Addr) (c : Nat) (L : List BlkV), v = .slice A L.length c ∧ SeesK w A L ∧ L.length ≤ c ∧ c ≤ maxLen := by
  obtain ⟨A, n, c, rfl⟩ := okWide_slice Tryd.underlying27 hv
  obtain ⟨fuel, hf⟩ := h
  rcases open_slice Tryd.underlying27 hf with ⟨hcs, _⟩ | ⟨a, len, cap, m, q, D, Pl, hcs, _, hl, hm, hmm, _, hi⟩
  · simp [Value.cells] at hcs
    obtain ⟨rfl, rfl, rfl⟩ := hcs
    exact ⟨none, 0, [], rfl, ⟨Sees.nil _ _, by simp⟩, by simp, by simp⟩
  · simp [Value.cells] at hcs
    obtain ⟨rfl, rfl, rfl⟩ := hcs
    have key : ∀ i, i < n → ∃ x : BlkV, w.cell? (a.add i) = some x.v ∧ SeesB w x.A x.l ∧ x.l.length ≤ x.c ∧ x.c ≤ maxLen := by
      intro i hlt
      obtain ⟨cs', hc, ht⟩ := hi i (by rw [hmm]; split <;> omega)
      rw [cellsBytesK, Nat.mul_one] at hc
      obtain ⟨_, hcl, hat⟩ := World.cells?_some hc
      obtain ⟨u, rfl⟩ := List.length_eq_one_iff.1 hcl
      have h0 := hat 0 (by omega)
      obtain ⟨A, c, zs, rfl, hs, hc1, hc2, hw⟩ := ints_raw Tryd.underlying32 Tryd.underlying5 (by kernel_rfl) ht
      refine ⟨⟨A, c, zs.map fun z => UInt8.ofNat z.toNat⟩, ?_, ?_, by simpa using hc1, hc2⟩
      · unfold BlkV.v
        simp only [List.length_map]
        exact h0
      · have e : (zs.map fun z => UInt8.ofNat z.toNat).map byteV = zs.map fun z => Value.int .u8 z := by
          rw [List.map_map]
          apply List.map_congr_left
          intro z hz
          have := wf_u8 (hw z hz)
          simp [byteV]; omega
        unfold SeesB
        rw [e]
        exact hs
    let F : Nat → BlkV := fun i => if h : i < n then Classical.choose (key i h) else ⟨none, 0, []⟩
    have hF : ∀ i, i < n → w.cell? (a.add i) = some (F i).v ∧ SeesB w (F i).A (F i).l ∧ (F i).l.length ≤ (F i).c ∧ (F i).c ≤ maxLen := by
      intro i hlt
      have e : F i = Classical.choose (key i hlt) := dif_pos hlt
      rw [e]
      exact Classical.choose_spec (key i hlt)
    refine ⟨some a, c, (List.range n).map F, by simp, ⟨?_, ?_⟩, by simpa using hl, hm⟩
    · intro i v hv
      rw [List.map_map, List.getElem?_map] at hv
      have hlt : i < n := by
        rcases Nat.lt_or_ge i n with h | h
        · exact h
        · rw [List.getElem?_eq_none (by simp; omega)] at hv; cases hv
      rw [List.getElem?_range hlt] at hv
      injection hv with hv
      exact ⟨a, rfl, by rw [← hv]; exact (hF i hlt).1⟩
    · intro x hx
      obtain ⟨i, hi', rfl⟩ := List.mem_map.1 hx
      exact (hF i (by simpa using hi')).2
end
end Go.Proofs.YtkmhmehofipehaaDoor
/- What the rows lay of utf8's two tables: layer 29. -/
namespace Go.Proofs.YtkmhmehofipehaaDoor
set_option linter.unusedVariables false
open Go.RowKit Go.Shelf Go.Lib Go.Proofs
set_option maxRecDepth 100000 in
theorem tabs_of {w : World} (h : laidMetH Tryd.prog Rows.fileBuildsRow.laid w) : Tabs w := by
  rw [MakeChecks.laidMetH_plain _ _ _ (by kernel_rfl)] at h
  have e1 : Rows.laid_unicode_utf8_first = firstData := by kernel_rfl
  have e2 : (Rows.laid_unicode_utf8_acceptRanges : DataW Unit) = acceptData := by kernel_rfl
  have h4 := Lib.laidMet.reads h (.head _)
  have h3 := Lib.laidMet.reads h (.tail _ (.head _))
  rw [e1] at h3
  rw [e2] at h4
  exact utf8Tabs_of_readsT (U8Types.of196 laysValid) extra h3 h4
end Go.Proofs.YtkmhmehofipehaaDoor
