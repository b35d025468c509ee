/- A file taken apart, by the program. -/
import Derived.Test.YtkmhmehofipehaaDoorC20
import Derived.Test.YtkmhmehofipehaaDoorC23
import Derived.Test.YtkmhmehofipehaaDoorC3
import Derived.WalkMore
import Derived.Test.YtkmhmehofipehaaDoorC12
import Derived.Test.YtkmhmehofipehaaDoorC9
import Derived.Test.YtkmhmehofipehaaDoorC11
import Derived.Deep.RegionHeld3
namespace Go.Proofs.YtkmhmehofipehaaDoor
set_option linter.unusedVariables false
open Go.RowKit
/-- a file that was read, in memory -/
def ParsePost (w : World) (r : Int × FileV) (e : Ending) (w' : World) : Prop :=
  ∃ (At : Option Addr) (ct : Nat) (Ak : Option Addr) (ck : Nat) (Ax : Option Addr) (cx : Nat) (L : List BlkM),
    e = .returned (.tuple #[.agg #[.int .i64 r.2.i.k, .int .i64 r.2.i.ch, .int .i64 r.2.i.bi, .int .i64 r.2.i.ra, .int .i64 r.2.i.bl, .int .i64 r.2.i.sh, .slice At r.2.l.length ct, .slice Ak L.length ck, .int .i64 r.2.cnt, .int .u32 r.2.sum, .slice Ax r.2.pl.length cx], .int .i64 r.1]) ∧
    SeesT w' At r.2.l ∧ r.2.l.length ≤ ct ∧ Sees w' Ak (flatM L) ∧ r.2.bl = L.map BlkM.plain ∧ (∀ x ∈ L, SeesB w' x.A x.p ∧ x.p.length ≤ x.c ∧ x.c ≤ maxLen) ∧ L.length ≤ ck ∧ ck ≤ maxLen ∧
    SeesI w' Ax r.2.pl ∧ r.2.pl.length ≤ cx ∧ cx ≤ maxLen ∧ Below w.heap.size w w'
theorem parse_bad {w w' : World} (E : Int) (hb : Below w.heap.size w w') : ParsePost w (E, FileV.zero) (.returned (.tuple #[.agg #[.int .i64 0, .int .i64 0, .int .i64 0, .int .i64 0, .int .i64 0, .int .i64 0, .slice none 0 0, .slice none 0 0, .int .i64 0, .int .u32 0, .slice none 0 0], .int .i64 E])) w' :=
  ⟨none, 0, none, 0, none, 0, [], rfl, (fun i h => by simp [FileV.zero] at h), Nat.le_refl _, Sees.nil _ _, rfl, (fun x hx => by simp at hx), Nat.le_refl _, Nat.zero_le _, Sees.nil _ _, Nat.le_refl _, Nat.zero_le _, hb⟩
theorem infoOf_right {b : List UInt8} (h : (getI b).1 = 0) : (infoOf b).right = true := by
  obtain ⟨k, ch, bi, ra, bl, sh, h1, h2, _⟩ := getI_good b h
  unfold infoOf InfoV.right
  rw [h1]
  exact h2
/-- how much is not read yet, as the reader has it in memory -/
def leftOf (w : World) (m n : Nat) : Nat := n + 1 - (match w.cell? ⟨m, 12, none⟩ with | some v => (intOf v).toNat | none => 0)
theorem leftOf_is {w : World} {m n p : Nat} (h : w.cell? ⟨m, 12, none⟩ = some (.int .i64 (p : Int))) : leftOf w m n = n + 1 - p := by
  unfold leftOf
  rw [h]
  rfl
theorem Rdr.left {w0 w1 w : World} {m g : Nat} {i : InfoV} {Ab : Option Addr} {cb : Nat} {b : List UInt8} {At : Option Addr} {nt ct : Nat} {s : PS} {L : List BlkM} (h : Rdr w0 w1 w m g i Ab cb b At nt ct s L) (n : Nat) : leftOf w m n = n + 1 - s.at_ := by
  obtain ⟨Ap, cp, Ak, ck, hm, _⟩ := h
  exact leftOf_is (by rw [cell_of_row _ _ _ _ _ _ hm]; rfl)
theorem Rdr.rest {w0 w1 w : World} {m g : Nat} {i : InfoV} {Ab : Option Addr} {cb : Nat} {b : List UInt8} {At : Option Addr} {nt ct : Nat} {s : PS} {L : List BlkM} (h : Rdr w0 w1 w m g i Ab cb b At nt ct s L) (hB : Base w0 g Ab cb b) (hs : s.ok b) :
    Calls Tryd.prog 30 #[.pointer (some ⟨m, 0, none⟩)] w (RestPost w (b.drop s.at_)) := by
  obtain ⟨Ap, cp, Ak, ck, hm, _, _, _, _, hw, _⟩ := h
  exact rest_any m _ 85 Ab cb s.at_ b w hm rfl rfl (hB.sees.below hw) hB.cap.1 hB.cap.2 hs.at_
theorem Rdr.below {w0 w1 w w' : World} {m g : Nat} {i : InfoV} {Ab : Option Addr} {cb : Nat} {b : List UInt8} {At : Option Addr} {nt ct : Nat} {s : PS} {L : List BlkM} (h : Rdr w0 w1 w m g i Ab cb b At nt ct s L) (hb : Below w.heap.size w w') : Rdr w0 w1 w' m g i Ab cb b At nt ct s L := by
  obtain ⟨Ap, cp, Ak, ck, hm, hp, hk, hpay, hbl, hw, hbut⟩ := h
  exact ⟨Ap, cp, Ak, ck, (hb.block m (Array.getElem?_eq_some_iff.1 hm).1).trans hm, own_keepF hp hb, own_keepF hk hb, hpay.below hb, hbl, hw.trans (hb.mono hw.size), hbut.trans (But.of_below (R := fun _ => False) hb) (fun n h => h.elim)⟩
theorem Rdr.start {w0 w1 : World} {m g : Nat} {i : InfoV} {Ab : Option Addr} {cb : Nat} {b : List UInt8} {At : Option Addr} {nt ct n : Nat} (hm : w1.heap[m]? = some (.cells (RdCells g i none 0 0 0 false Ab b.length cb (19 + n) i At nt ct none 0 0 0 0 none 0 0) 85 (0, 0))) (hw : Below w0.heap.size w0 w1) :
    Rdr w0 w1 w1 m g i Ab cb b At nt ct (begP n) [] :=
  ⟨none, 0, none, 0, hm, own_nil _ _ _ _, own_nil _ _ _ _, (fun x hx => by simp at hx), rfl, hw, But.refl _ _⟩
theorem Rdr.bl {w0 w1 w : World} {m g : Nat} {i : InfoV} {Ab : Option Addr} {cb : Nat} {b : List UInt8} {At : Option Addr} {nt ct : Nat} {s : PS} {L : List BlkM} (h : Rdr w0 w1 w m g i Ab cb b At nt ct s L) : s.bl = L.map BlkM.plain := by
  obtain ⟨Ap, cp, Ak, ck, hm, hp, hk, hpay, hbl, hw, hbut⟩ := h
  exact hbl
theorem zeroF_is (j : Nat) (v : Value) (h : (#[.int .i64 0, .int .i64 0, .int .i64 0, .int .i64 0, .int .i64 0, .int .i64 0, .slice none 0 0, .slice none 0 0, .int .i64 0, .int .u32 0, .slice none 0 0] : Array Value)[j]? = some v) : v = .int .i64 0 ∨ v = .slice none 0 0 ∨ v = .int .u32 0 := by
  have hk : j < 11 := (Array.getElem?_eq_some_iff.1 h).1
  obtain rfl | rfl | rfl | rfl | rfl | rfl | rfl | rfl | rfl | rfl | rfl : j = 0 ∨ j = 1 ∨ j = 2 ∨ j = 3 ∨ j = 4 ∨ j = 5 ∨ j = 6 ∨ j = 7 ∨ j = 8 ∨ j = 9 ∨ j = 10 := by omega
  all_goals (simp at h; subst h; simp)
theorem zeroF_nob (j : Nat) (z : Int) : (#[.int .i64 0, .int .i64 0, .int .i64 0, .int .i64 0, .int .i64 0, .int .i64 0, .slice none 0 0, .slice none 0 0, .int .i64 0, .int .u32 0, .slice none 0 0] : Array Value)[j]? ≠ some (.int .u8 z) := by
  intro h
  have h1 := zeroF_is j _ h
  simp at h1
theorem SeesB.butNob {w w' : World} {A : Option Addr} {l : List UInt8} {q : Nat} {cs : Array Value} {t : TypeId} {fr : Nat × Nat} (h : SeesB w A l) (hb : But (Only q) w w') (hq : w.heap[q]? = some (.cells cs t fr)) (hcs : ∀ (j : Nat) (z : Int), cs[j]? ≠ some (.int .u8 z)) : SeesB w' A l := by
  intro i v hv
  obtain ⟨a, ha, hc⟩ := h i v hv
  refine ⟨a, ha, (World.cell?_of_block (w := w) (hb.block _ (block_lt_of_cell hc) ?_)).trans hc⟩
  intro hxm
  have hxm2 : (a.add i).block = q := hxm
  rw [List.getElem?_map] at hv
  obtain ⟨x, _, rfl⟩ := Option.map_eq_some_iff.1 hv
  generalize a.add i = y at *
  obtain ⟨xb, xo, xi⟩ := y
  simp only at hxm2
  subst hxm2
  simp only [World.cell?, hq] at hc
  cases xi with
  | none => exact hcs _ _ hc
  | some y => simp at hc
theorem SeesT.butZ {w w' : World} {A : Option Addr} {l : List TagV} {q : Nat} {t : TypeId} {fr : Nat × Nat} (h : SeesT w A l) (hb : But (Only q) w w') (hq : w.heap[q]? = some (.cells #[.int .i64 0, .int .i64 0, .int .i64 0, .int .i64 0, .int .i64 0, .int .i64 0, .slice none 0 0, .slice none 0 0, .int .i64 0, .int .u32 0, .slice none 0 0] t fr)) : SeesT w' A l := by
  intro k hk
  obtain ⟨a, ha, h0, h1⟩ := h k hk
  have key : ∀ (x : Addr) (s : ByteArray), w.cell? x = some (.string s) → w'.cell? x = some (.string s) := by
    intro x s hx
    refine (World.cell?_of_block (w := w) (hb.block _ (block_lt_of_cell hx) ?_)).trans hx
    intro hxm
    have hxm2 : x.block = q := hxm
    obtain ⟨xb, xo, xi⟩ := x
    simp only at hxm2
    subst hxm2
    simp only [World.cell?, hq] at hx
    cases xi with
    | none => have h3 := zeroF_is _ _ hx; simp at h3
    | some y => simp at hx
  exact ⟨a, ha, key _ _ h0, key _ _ h1⟩
theorem Rdr.lt {w0 w1 w : World} {m g : Nat} {i : InfoV} {Ab : Option Addr} {cb : Nat} {b : List UInt8} {At : Option Addr} {nt ct : Nat} {s : PS} {L : List BlkM} (h : Rdr w0 w1 w m g i Ab cb b At nt ct s L) : Below w0.heap.size w0 w := by
  obtain ⟨Ap, cp, Ak, ck, hm, hp, hk, hpay, hbl, hw, hbut⟩ := h
  exact hw
set_option maxRecDepth 20000 in
set_option maxHeartbeats 8000000 in
theorem parse_beg (g : Nat) (Ab : Option Addr) (cb : Nat) (b : List UInt8) (w : World) (hB0 : Base w g Ab cb b) (hE : (begE b).1 ≠ 0) :
    Calls Tryd.prog 13 #[.pointer (some ⟨g, 0, none⟩), .slice Ab b.length cb] w (ParsePost w (parseF b)) := by
  have hR : parseF b = ((begE b).1, FileV.zero) := by
    unfold begE at hE ⊢
    unfold parseF
    by_cases h1 : (getI b).1 ≠ 0
    · rw [if_pos h1, if_pos h1]
    · rw [if_neg h1] at hE
      rw [if_neg h1, if_pos hE, if_neg h1]
  obtain ⟨E, hEq⟩ : ∃ E, E = (begE b).1 := ⟨_, rfl⟩
  rw [← hEq] at hE hR
  have dE : (E == 0) = false := by simpa using hE
  have dE1 : (E != 0) = true := by simpa using hE
  have dE2 : decide (E = 0) = false := decide_eq_false hE
  have HEQ := hid hEq.symm
  clear hEq hE
  have hz0 := heap_alloc_new w (.cells #[.int .i64 0, .int .i64 0, .int .i64 0, .int .i64 0, .int .i64 0, .int .i64 0, .slice none 0 0, .slice none 0 0, .int .i64 0, .int .u32 0, .slice none 0 0] 45)
  have hbz : Below w.heap.size w (w.alloc (.cells #[.int .i64 0, .int .i64 0, .int .i64 0, .int .i64 0, .int .i64 0, .int .i64 0, .slice none 0 0, .slice none 0 0, .int .i64 0, .int .u32 0, .slice none 0 0] 45)) := (Below.refl _ w).alloc (Nat.le_refl _) _
  have hsz : (w.alloc (.cells #[.int .i64 0, .int .i64 0, .int .i64 0, .int .i64 0, .int .i64 0, .int .i64 0, .slice none 0 0, .slice none 0 0, .int .i64 0, .int .u32 0, .slice none 0 0] 45)).heap.size = w.heap.size + 1 := by simp
  have hB : Base (w.alloc (.cells #[.int .i64 0, .int .i64 0, .int .i64 0, .int .i64 0, .int .i64 0, .int .i64 0, .slice none 0 0, .slice none 0 0, .int .i64 0, .int .u32 0, .slice none 0 0] 45)) g Ab cb b := ⟨hB0.tab.keep hbz hB0.tab.lt, hB0.sees.below hbz, hB0.cap, hB0.tabs.below hbz, hB0.len⟩
  have HR := hid hR
  go_enter Tryd.func13, Tryd.ntmps13
  clear hR
  go_wp2_with fail
  go_step3
  go_wp2_with fail
  generalize w.alloc (.cells #[.int .i64 0, .int .i64 0, .int .i64 0, .int .i64 0, .int .i64 0, .int .i64 0, .slice none 0 0, .slice none 0 0, .int .i64 0, .int .u32 0, .slice none 0 0] 45) = wz at *
  have hm0 := heap_alloc_new wz (.cells #[.pointer (some ⟨g, 0, none⟩), .int .i64 0, .int .i64 0, .int .i64 0, .int .i64 0, .int .i64 0, .int .i64 0, .slice none 0 0, .slice none 0 0, .int .i64 0, .bool false, .slice Ab b.length cb, .int .i64 0, .int .i64 0, .int .i64 0, .int .i64 0, .int .i64 0, .int .i64 0, .int .i64 0, .slice none 0 0, .slice none 0 0, .int .i64 0, .int .u32 0, .slice none 0 0] 85)
  have hbr : Below wz.heap.size wz (wz.alloc (.cells #[.pointer (some ⟨g, 0, none⟩), .int .i64 0, .int .i64 0, .int .i64 0, .int .i64 0, .int .i64 0, .int .i64 0, .slice none 0 0, .slice none 0 0, .int .i64 0, .bool false, .slice Ab b.length cb, .int .i64 0, .int .i64 0, .int .i64 0, .int .i64 0, .int .i64 0, .int .i64 0, .int .i64 0, .slice none 0 0, .slice none 0 0, .int .i64 0, .int .u32 0, .slice none 0 0] 85)) := (Below.refl _ wz).alloc (Nat.le_refl _) _
  rw [hsz] at hm0
  have hmle : wz.heap.size ≤ w.heap.size + 1 := by omega
  have hzlt : w.heap.size < wz.heap.size := by omega
  generalize wz.alloc (.cells #[.pointer (some ⟨g, 0, none⟩), .int .i64 0, .int .i64 0, .int .i64 0, .int .i64 0, .int .i64 0, .int .i64 0, .slice none 0 0, .slice none 0 0, .int .i64 0, .bool false, .slice Ab b.length cb, .int .i64 0, .int .i64 0, .int .i64 0, .int .i64 0, .int .i64 0, .int .i64 0, .int .i64 0, .slice none 0 0, .slice none 0 0, .int .i64 0, .int .u32 0, .slice none 0 0] 85) = W at *
  generalize w.heap.size + 1 = m at *
  clear hsz hB0
  refine (begin_any m g b Ab cb wz W hbr hm0 hmle hB).mono ?_
  rintro e w1 ⟨rfl, hw1, hok⟩
  clear hbr hm0
  have hzr := (hw1.block w.heap.size hzlt).trans hz0
  have hbw := hbz.trans (hw1.mono hbz.size)
  rw [HEQ.out]
  clear hok hw1 hz0 hbz HEQ hB hmle hzlt
  go_wp2_with fail
  go_step3
  go_wp2_with fail
  go_loop [7] (fun q => q = .int .i64 E) (fun _ => 0)
  case atStart => exact rfl
  case round =>
    obtain rfl := hrel
    go_wp2_with first | (refine wpList_build rfl 45 _ rfl (.agg #[.int .i64 0, .int .i64 0, .int .i64 0, .int .i64 0, .int .i64 0, .int .i64 0, .slice none 0 0, .slice none 0 0, .int .i64 0, .int .u32 0, .slice none 0 0]) (by kernel_rfl) ?_) | (refine wpList_store_row rfl 45 (.tmp 4) (.tmp 42) rfl rfl w.heap.size rfl #[.int .i64 0, .int .i64 0, .int .i64 0, .int .i64 0, .int .i64 0, .int .i64 0, .slice none 0 0, .slice none 0 0, .int .i64 0, .int .u32 0, .slice none 0 0] rfl 45 #[.int .i64 0, .int .i64 0, .int .i64 0, .int .i64 0, .int .i64 0, .int .i64 0, .slice none 0 0, .slice none 0 0, .int .i64 0, .int .u32 0, .slice none 0 0] hzr (by kernel_rfl) rfl (by simp [Value.oneCell']) ?_)
    (try rw [Exit.noGoto_ret])
    refine bodyPost_ret (v := .tuple #[.agg #[.int .i64 0, .int .i64 0, .int .i64 0, .int .i64 0, .int .i64 0, .int .i64 0, .slice none 0 0, .slice none 0 0, .int .i64 0, .int .u32 0, .slice none 0 0], .int .i64 E]) (results_row_tmp (fn := Tryd.f13) (p := 4) (u := 5) (ty := 45) rfl _ _ w.heap.size _ _ _ _ rfl (setRow_heap _ _ _ _ _ _ hzr) Tryd.underlying45 rfl (by kernel_rfl)) rfl ?_
    rw [HR.out]
    exact parse_bad E (below_setRow hbw (Nat.le_refl _) _)
set_option maxRecDepth 20000 in
set_option maxHeartbeats 8000000 in
theorem parse_go (g : Nat) (Ab : Option Addr) (cb : Nat) (b : List UInt8) (w : World) (hB0 : Base w g Ab cb b) (hE : (begE b).1 = 0) :
    Calls Tryd.prog 13 #[.pointer (some ⟨g, 0, none⟩), .slice Ab b.length cb] w (ParsePost w (parseF b)) := by
  have hI : (getI b).1 = 0 := by
    unfold begE at hE
    by_cases h1 : (getI b).1 ≠ 0
    · rw [if_pos h1] at hE; exact hE
    · simpa using h1
  have hG : begE b = getG (b.drop 19) := by unfold begE; rw [if_neg (by rw [hI]; simp)]
  rw [hG] at hE
  have hbi := (InfoV.range (infoOf_right hI)).2.2.1
  have hl19 := getI_long hI
  have hgr := (getG_range (b.drop 19)).1
  rw [List.length_drop] at hgr
  have hR : parseF b = finP (infoOf b) (getG (b.drop 19)).2.2 b (loopP (infoOf b) b (b.length + 1) (begP (getG (b.drop 19)).2.1)) := by
    unfold parseF
    rw [if_neg (by rw [hI]; simp), if_neg (by rw [hE]; simp)]
  obtain ⟨⟨E, nr, l⟩, hr⟩ : ∃ r, getG (b.drop 19) = r := ⟨_, rfl⟩
  rw [hr] at hG hE hgr hR
  simp only at hE hgr hR
  subst hE
  have hso : (begP nr).ok b := begP_ok (by omega)
  have hfu : b.length - (begP nr).at_ < b.length + 1 := by omega
  have HG := hid hG
  generalize hib : infoOf b = i at *
  have HIB := hid hib
  clear hib
  obtain ⟨P, hP⟩ : ∃ P, P = parseF b := ⟨_, rfl⟩
  rw [← hP] at hR ⊢
  clear hP hI hG hr hgr hl19
  have hz0 := heap_alloc_new w (.cells #[.int .i64 0, .int .i64 0, .int .i64 0, .int .i64 0, .int .i64 0, .int .i64 0, .slice none 0 0, .slice none 0 0, .int .i64 0, .int .u32 0, .slice none 0 0] 45)
  have hbz : Below w.heap.size w (w.alloc (.cells #[.int .i64 0, .int .i64 0, .int .i64 0, .int .i64 0, .int .i64 0, .int .i64 0, .slice none 0 0, .slice none 0 0, .int .i64 0, .int .u32 0, .slice none 0 0] 45)) := (Below.refl _ w).alloc (Nat.le_refl _) _
  have hsz : (w.alloc (.cells #[.int .i64 0, .int .i64 0, .int .i64 0, .int .i64 0, .int .i64 0, .int .i64 0, .slice none 0 0, .slice none 0 0, .int .i64 0, .int .u32 0, .slice none 0 0] 45)).heap.size = w.heap.size + 1 := by simp
  have hB : Base (w.alloc (.cells #[.int .i64 0, .int .i64 0, .int .i64 0, .int .i64 0, .int .i64 0, .int .i64 0, .slice none 0 0, .slice none 0 0, .int .i64 0, .int .u32 0, .slice none 0 0] 45)) g Ab cb b := ⟨hB0.tab.keep hbz hB0.tab.lt, hB0.sees.below hbz, hB0.cap, hB0.tabs.below hbz, hB0.len⟩
  have HR := hid hR
  go_enter Tryd.func13, Tryd.ntmps13
  clear hR
  go_wp2_with fail
  go_step3
  go_wp2_with fail
  generalize w.alloc (.cells #[.int .i64 0, .int .i64 0, .int .i64 0, .int .i64 0, .int .i64 0, .int .i64 0, .slice none 0 0, .slice none 0 0, .int .i64 0, .int .u32 0, .slice none 0 0] 45) = wz at *
  have hm0 := heap_alloc_new wz (.cells #[.pointer (some ⟨g, 0, none⟩), .int .i64 0, .int .i64 0, .int .i64 0, .int .i64 0, .int .i64 0, .int .i64 0, .slice none 0 0, .slice none 0 0, .int .i64 0, .bool false, .slice Ab b.length cb, .int .i64 0, .int .i64 0, .int .i64 0, .int .i64 0, .int .i64 0, .int .i64 0, .int .i64 0, .slice none 0 0, .slice none 0 0, .int .i64 0, .int .u32 0, .slice none 0 0] 85)
  have hbr : Below wz.heap.size wz (wz.alloc (.cells #[.pointer (some ⟨g, 0, none⟩), .int .i64 0, .int .i64 0, .int .i64 0, .int .i64 0, .int .i64 0, .int .i64 0, .slice none 0 0, .slice none 0 0, .int .i64 0, .bool false, .slice Ab b.length cb, .int .i64 0, .int .i64 0, .int .i64 0, .int .i64 0, .int .i64 0, .int .i64 0, .int .i64 0, .slice none 0 0, .slice none 0 0, .int .i64 0, .int .u32 0, .slice none 0 0] 85)) := (Below.refl _ wz).alloc (Nat.le_refl _) _
  rw [hsz] at hm0
  have hmle : wz.heap.size ≤ w.heap.size + 1 := by omega
  have hzlt : w.heap.size < wz.heap.size := by omega
  generalize wz.alloc (.cells #[.pointer (some ⟨g, 0, none⟩), .int .i64 0, .int .i64 0, .int .i64 0, .int .i64 0, .int .i64 0, .int .i64 0, .slice none 0 0, .slice none 0 0, .int .i64 0, .bool false, .slice Ab b.length cb, .int .i64 0, .int .i64 0, .int .i64 0, .int .i64 0, .int .i64 0, .int .i64 0, .int .i64 0, .slice none 0 0, .slice none 0 0, .int .i64 0, .int .u32 0, .slice none 0 0] 85) = W at *
  generalize w.heap.size + 1 = m at *
  clear hsz hB0
  refine (begin_any m g b Ab cb wz W hbr hm0 hmle hB).mono ?_
  rintro e w1 ⟨rfl, hw1, hok⟩
  clear hbr hm0
  rw [HG.out] at hok ⊢
  rw [HIB.out] at hok
  obtain ⟨At, ct, hrow, hst, hct⟩ := hok rfl
  simp only at hrow hst hct
  have hRs := Rdr.start (n := nr) hrow hw1
  have hm1 : m < w1.heap.size := (Array.getElem?_eq_some_iff.1 hrow).1
  have hw01 := hw1.size
  have HROW := hid hrow
  clear hok hrow HG
  go_wp2_with fail
  go_step3
  go_wp2_with fail
  go_loopw [7] (fun q wr => (∃ E, q = .int .i64 E ∧ E ≠ 0 ∧ Below wz.heap.size wz wr ∧ Hid (P = (E, FileV.zero))) ∨ (q = .int .i64 0 ∧ ∃ (n : Nat) (s : PS) (L : List BlkM), Rdr wz w1 wr m g i Ab cb b At l.length ct s L ∧ s.ok b ∧ Hid (P = finP i l b (loopP i b n s)) ∧ b.length - s.at_ < n)) (fun q wr => if intOf q = 0 then leftOf wr m b.length else 0)
  case atStart => exact .inr ⟨rfl, b.length + 1, begP nr, [], hRs, hso, HR, hfu⟩
  case round =>
    clear hRs hso hfu HR
    rcases hrel with ⟨E, rfl, hE, hbr, HE⟩ | ⟨rfl, n, s, L, hR, hs, HN, hn⟩
    · have dE : (E == 0) = false := by simpa using hE
      have dE1 : (E != 0) = true := by simpa using hE
      have dE2 : decide (E = 0) = false := decide_eq_false hE
      have hzr := (hbr.block w.heap.size hzlt).trans hz0
      have hbw := hbz.trans (hbr.mono hbz.size)
      clear hE hbr hz0 hbz hw1 hst hB hmle hzlt hm1 hw01
      go_wp2_with first | (refine wpList_build rfl 45 _ rfl (.agg #[.int .i64 0, .int .i64 0, .int .i64 0, .int .i64 0, .int .i64 0, .int .i64 0, .slice none 0 0, .slice none 0 0, .int .i64 0, .int .u32 0, .slice none 0 0]) (by kernel_rfl) ?_) | (refine wpList_store_row rfl 45 (.tmp 4) (.tmp 42) rfl rfl w.heap.size rfl #[.int .i64 0, .int .i64 0, .int .i64 0, .int .i64 0, .int .i64 0, .int .i64 0, .slice none 0 0, .slice none 0 0, .int .i64 0, .int .u32 0, .slice none 0 0] rfl 45 #[.int .i64 0, .int .i64 0, .int .i64 0, .int .i64 0, .int .i64 0, .int .i64 0, .slice none 0 0, .slice none 0 0, .int .i64 0, .int .u32 0, .slice none 0 0] hzr (by kernel_rfl) rfl (by simp [Value.oneCell']) ?_)
      (try rw [Exit.noGoto_ret])
      refine bodyPost_ret (v := .tuple #[.agg #[.int .i64 0, .int .i64 0, .int .i64 0, .int .i64 0, .int .i64 0, .int .i64 0, .slice none 0 0, .slice none 0 0, .int .i64 0, .int .u32 0, .slice none 0 0], .int .i64 E]) (results_row_tmp (fn := Tryd.f13) (p := 4) (u := 5) (ty := 45) rfl _ _ w.heap.size _ _ _ _ rfl (setRow_heap _ _ _ _ _ _ hzr) Tryd.underlying45 rfl (by kernel_rfl)) rfl ?_
      rw [HE.out]
      exact parse_bad E (below_setRow hbw (Nat.le_refl _) _)
    have hRR := hid hR
    have hdl : (b.drop s.at_).length = b.length - s.at_ := List.length_drop
    have hsat := hs.at_
    have HRT := hid (fun W (hb : Below wr.heap.size wr W) => (hR.below hb).rest hB hs)
    have HBL := hid (fun W (hb : Below wr.heap.size wr W) => block_any m g i Ab cb b At l.length ct s L wz w1 W (hR.below hb) hs hB hmle hbi hw01)
    have HEN := hid (fun W (hb : Below wr.heap.size wr W) => end_any m g i Ab cb b At l.length ct s L wz w1 W (hR.below hb) hs hB hmle hw01)
    obtain ⟨n, rfl⟩ : ∃ k, n = k + 1 := ⟨n - 1, by omega⟩
    have hEX : ∀ W, Below wr.heap.size wr W → b[s.at_]? ≠ some 69 → Calls Tryd.prog 31 #[.pointer (some ⟨m, 0, none⟩)] W fun e w' => ∃ E, e = .returned (.int .i64 E) ∧
        ((E ≠ 0 ∧ Below wz.heap.size wz w' ∧ Hid (P = (E, FileV.zero))) ∨ (E = 0 ∧ ∃ (k : Nat) (s' : PS) (L' : List BlkM), Rdr wz w1 w' m g i Ab cb b At l.length ct s' L' ∧ s'.ok b ∧ Hid (P = finP i l b (loopP i b k s')) ∧ b.length - s'.at_ < k ∧ s.at_ < s'.at_)) := by
      intro W hbW h69
      refine (HBL.out W hbW).mono ?_
      rintro e w' ⟨rfl, hbw', hnx⟩
      refine ⟨_, rfl, ?_⟩
      have hP := HN.out
      rw [loopP, if_neg h69] at hP
      by_cases hz : blkE i b s = 0
      · rw [if_neg (by rw [hz]; simp)] at hP
        obtain ⟨x, hx⟩ := hnx hz
        have h1 : s.at_ + 36 ≤ (s.next i (openH (b.drop s.at_))).at_ := by show s.at_ + 36 ≤ s.at_ + (36 + _); omega
        have h2 := (hs.next hz).at_
        exact .inr ⟨hz, n, _, _, hx, hs.next hz, hP, by omega, by omega⟩
      · rw [if_pos hz] at hP
        refine .inl ⟨hz, hbw', ?_⟩
        rw [hP]
        unfold finP
        rw [if_pos hz]
        rfl
    have HEX := hid hEX
    have hle0 := hR.left b.length
    have HLE := hid hle0
    clear hEX HBL hle0
    have hbr := hR.lt
    generalize hbd : b.drop s.at_ = bd at HRT HEN
    rw [hbd] at hdl
    clear hR hw1
    go_wp2_with fail
    refine (HRT.out wr (Below.refl _ _)).mono ?_
    rintro e w2 ⟨A2, c2, rfl, hs2, hc2, hcm2, hb2⟩
    by_cases hpos : s.at_ < b.length
    · have d0 : decide (0 < bd.length) = true := by rw [hdl]; simp; omega
      have d0' : decide ((0 : Int) < (bd.length : Int)) = true := by rw [hdl]; simp; omega
      have h0 : (0 : Nat) < bd.length := by omega
      have h0i : (0 : Int) < (bd.length : Int) := by omega
      have hb69 : b[s.at_]? = some bd[0] := by
        subst hbd
        rw [List.getElem_drop, List.getElem?_eq_getElem (by omega)]
        rfl
      clear hs2 hdl hbd
      go_wp2_with fail
      refine (HRT.out w2 hb2).mono ?_
      rintro e w3 ⟨A3, c3, rfl, hs3, hc3, hcm3, hb3⟩
      have hb23 := hb2.trans (hb3.mono hb2.size)
      obtain ⟨a3, rfl, ca3⟩ := hs3.at h0
      have ca : w3.cell? a3 = some (.int .u8 (bd[0].toNat : Int)) := ca3
      clear hs3 ca3 hb2 hb3 HRT
      generalize bd[0] = x at *
      by_cases hx : x = 69
      · have d1 : ((x.toNat : Int) == 69) = true := by rw [hx]; rfl
        have HP := hid (show P = finP i l b (0, s) by rw [HN.out, loopP, if_pos (by rw [hb69, hx])])
        clear hx hb69 HEX HN
        go_wp2_with fail
        refine (HEN.out w3 hb23).mono ?_
        rintro e w4 ⟨rfl, hw4, hfin⟩
        clear HEN
        obtain ⟨E, hE⟩ : ∃ E, E = tailE b s := ⟨_, rfl⟩
        rw [← hE] at hfin ⊢
        have HTE := hid hE
        clear hE
        have hzr := (hw4.block w.heap.size hzlt).trans hz0
        have hbw := hbz.trans (hw4.mono hbz.size)
        by_cases hz : E = 0
        · subst hz
          obtain ⟨Ap, cp, Ak, ck, Ax, cx, Ab', cb', p', hm4, hk4, hpay4, hx4, hcx, hcmx, hlk, hckm, hB4, hAk, hAx⟩ := hfin rfl
          have HFIN : ParsePost w P (.returned (.tuple #[.agg #[.int .i64 i.k, .int .i64 i.ch, .int .i64 i.bi, .int .i64 i.ra, .int .i64 i.bl, .int .i64 i.sh, .slice At l.length ct, .slice Ak L.length ck, .int .i64 (getT (b.drop s.at_)).2.2.1, .int .u32 (getT (b.drop s.at_)).2.2.2.1, .slice Ax (getT (b.drop s.at_)).2.2.2.2.length cx], .int .i64 0])) (w4.setRow w.heap.size #[.int .i64 i.k, .int .i64 i.ch, .int .i64 i.bi, .int .i64 i.ra, .int .i64 i.bl, .int .i64 i.sh, .slice At l.length ct, .slice Ak L.length ck, .int .i64 (getT (b.drop s.at_)).2.2.1, .int .u32 (getT (b.drop s.at_)).2.2.2.1, .slice Ax (getT (b.drop s.at_)).2.2.2.2.length cx]) := by
            rw [HP.out]
            unfold finP
            rw [if_neg (by simp), if_neg (by rw [← HTE.out]; simp)]
            have hbl := hRR.out.bl
            have hsT := (hst.butRd hB4 (fun n h => h) HROW.out).butZ (but_row w.heap.size #[.int .i64 i.k, .int .i64 i.ch, .int .i64 i.bi, .int .i64 i.ra, .int .i64 i.bl, .int .i64 i.sh, .slice At l.length ct, .slice Ak L.length ck, .int .i64 (getT (b.drop s.at_)).2.2.1, .int .u32 (getT (b.drop s.at_)).2.2.2.1, .slice Ax (getT (b.drop s.at_)).2.2.2.2.length cx]) hzr
            refine ⟨At, ct, Ak, ck, Ax, cx, L, rfl, hsT, hct, ?_, hbl, fun x hx => ?_, hlk, hckm, ?_, hcx, hcmx, below_setRow hbw (Nat.le_refl _) _⟩
            · exact Sees.setRowFar hk4 w.heap.size _ (fun a ha => by have := hAk a ha; omega)
            · obtain ⟨q1, q2, q3⟩ := hpay4 x hx
              exact ⟨q1.butNob (but_row w.heap.size _) hzr zeroF_nob, q2, q3⟩
            · exact Sees.setRowFar (show Sees w4 Ax (_) from hx4) w.heap.size _ (fun a ha => by have := hAx a ha; omega)
          clear hfin HTE HP hk4 hpay4 hx4 hB4
          go_wp2_with first | (refine wpList_load_part rfl 45 (.tmp 46) rfl m 13 rfl #[.int .i64 i.k, .int .i64 i.ch, .int .i64 i.bi, .int .i64 i.ra, .int .i64 i.bl, .int .i64 i.sh, .slice At l.length ct, .slice Ak L.length ck, .int .i64 (getT (b.drop s.at_)).2.2.1, .int .u32 (getT (b.drop s.at_)).2.2.2.1, .slice Ax (getT (b.drop s.at_)).2.2.2.2.length cx] _ 85 _ (0, 0) hm4 rfl Tryd.underlying45 rfl (by kernel_rfl) ?_) | (refine wpList_store_row rfl 45 (.tmp 4) (.tmp 47) rfl rfl w.heap.size rfl #[.int .i64 i.k, .int .i64 i.ch, .int .i64 i.bi, .int .i64 i.ra, .int .i64 i.bl, .int .i64 i.sh, .slice At l.length ct, .slice Ak L.length ck, .int .i64 (getT (b.drop s.at_)).2.2.1, .int .u32 (getT (b.drop s.at_)).2.2.2.1, .slice Ax (getT (b.drop s.at_)).2.2.2.2.length cx] rfl 45 #[.int .i64 0, .int .i64 0, .int .i64 0, .int .i64 0, .int .i64 0, .int .i64 0, .slice none 0 0, .slice none 0 0, .int .i64 0, .int .u32 0, .slice none 0 0] hzr (by kernel_rfl) rfl (by simp [Value.oneCell']) ?_)
          (try rw [Exit.noGoto_ret])
          refine bodyPost_ret (v := .tuple #[.agg #[.int .i64 i.k, .int .i64 i.ch, .int .i64 i.bi, .int .i64 i.ra, .int .i64 i.bl, .int .i64 i.sh, .slice At l.length ct, .slice Ak L.length ck, .int .i64 (getT (b.drop s.at_)).2.2.1, .int .u32 (getT (b.drop s.at_)).2.2.2.1, .slice Ax (getT (b.drop s.at_)).2.2.2.2.length cx], .int .i64 0]) (results_row_tmp (fn := Tryd.f13) (p := 4) (u := 5) (ty := 45) rfl _ _ w.heap.size _ _ _ _ rfl (setRow_heap _ _ _ _ _ _ hzr) Tryd.underlying45 rfl (by kernel_rfl)) rfl ?_
          exact HFIN
        · have dE : (E == 0) = false := by simpa using hz
          have dE1 : (E != 0) = true := by simpa using hz
          have HF := hid (show P = (E, FileV.zero) by rw [HP.out]; unfold finP; rw [if_neg (by simp), if_pos (by rw [← HTE.out]; exact hz), ← HTE.out])
          clear hfin HTE HP hw4
          go_wp2_with first | (refine wpList_build rfl 45 _ rfl (.agg #[.int .i64 0, .int .i64 0, .int .i64 0, .int .i64 0, .int .i64 0, .int .i64 0, .slice none 0 0, .slice none 0 0, .int .i64 0, .int .u32 0, .slice none 0 0]) (by kernel_rfl) ?_) | (refine wpList_store_row rfl 45 (.tmp 4) (.tmp 42) rfl rfl w.heap.size rfl #[.int .i64 0, .int .i64 0, .int .i64 0, .int .i64 0, .int .i64 0, .int .i64 0, .slice none 0 0, .slice none 0 0, .int .i64 0, .int .u32 0, .slice none 0 0] rfl 45 #[.int .i64 0, .int .i64 0, .int .i64 0, .int .i64 0, .int .i64 0, .int .i64 0, .slice none 0 0, .slice none 0 0, .int .i64 0, .int .u32 0, .slice none 0 0] hzr (by kernel_rfl) rfl (by simp [Value.oneCell']) ?_)
          (try rw [Exit.noGoto_ret])
          refine bodyPost_ret (v := .tuple #[.agg #[.int .i64 0, .int .i64 0, .int .i64 0, .int .i64 0, .int .i64 0, .int .i64 0, .slice none 0 0, .slice none 0 0, .int .i64 0, .int .u32 0, .slice none 0 0], .int .i64 E]) (results_row_tmp (fn := Tryd.f13) (p := 4) (u := 5) (ty := 45) rfl _ _ w.heap.size _ _ _ _ rfl (setRow_heap _ _ _ _ _ _ hzr) Tryd.underlying45 rfl (by kernel_rfl)) rfl ?_
          rw [HF.out]
          exact parse_bad E (below_setRow hbw (Nat.le_refl _) _)
      · have d1 : ((x.toNat : Int) == 69) = false := by
          show ((x.toNat : Int) == ((69 : Nat) : Int)) = false
          rw [byte_is x 69 (by omega)]
          simpa using hx
        have h69 : b[s.at_]? ≠ some 69 := by rw [hb69]; intro h; injection h with h; exact hx h
        replace HEX := hid (HEX.out w3 hb23 h69)
        clear hx hb69 h69 HN HEN
        go_wp2_with fail
        refine HEX.out.mono ?_
        rintro e w4 ⟨E, rfl, hcase⟩
        clear HEX
        go_wp2_with fail
        rcases hcase with ⟨hE, hb4, hP4⟩ | ⟨rfl, k, s', L', hR4, hs4, hP4, hk4, hat4⟩
        · refine ⟨.inl ⟨E, rfl, hE, hb4, hP4⟩, ?_⟩
          show (if intOf (.int .i64 E) = 0 then leftOf w4 m b.length else 0) < (if intOf (.int .i64 0) = 0 then leftOf wr m b.length else 0)
          rw [HLE.out, if_neg (show ¬ intOf (.int .i64 E) = 0 from hE), if_pos (show intOf (.int .i64 0) = 0 from rfl)]
          omega
        · refine ⟨.inr ⟨rfl, k, s', L', hR4, hs4, hP4, hk4⟩, ?_⟩
          show (if intOf (.int .i64 0) = 0 then leftOf w4 m b.length else 0) < (if intOf (.int .i64 0) = 0 then leftOf wr m b.length else 0)
          have := hs4.at_
          rw [HLE.out, hR4.left, if_pos (show intOf (.int .i64 0) = 0 from rfl), if_pos (show intOf (.int .i64 0) = 0 from rfl)]
          omega
    · have d0 : decide (0 < bd.length) = false := by rw [hdl]; simp; omega
      have d0' : decide ((0 : Int) < (bd.length : Int)) = false := by rw [hdl]; simp; omega
      have h69 : b[s.at_]? ≠ some 69 := by rw [List.getElem?_eq_none (by omega)]; simp
      replace HEX := hid (HEX.out w2 hb2 h69)
      clear hs2 hdl hbd HRT h69 HN HEN
      go_wp2_with fail
      refine HEX.out.mono ?_
      rintro e w4 ⟨E, rfl, hcase⟩
      clear HEX
      go_wp2_with fail
      rcases hcase with ⟨hE, hb4, hP4⟩ | ⟨rfl, k, s', L', hR4, hs4, hP4, hk4, hat4⟩
      · refine ⟨.inl ⟨E, rfl, hE, hb4, hP4⟩, ?_⟩
        show (if intOf (.int .i64 E) = 0 then leftOf w4 m b.length else 0) < (if intOf (.int .i64 0) = 0 then leftOf wr m b.length else 0)
        rw [HLE.out, if_neg (show ¬ intOf (.int .i64 E) = 0 from hE), if_pos (show intOf (.int .i64 0) = 0 from rfl)]
        omega
      · refine ⟨.inr ⟨rfl, k, s', L', hR4, hs4, hP4, hk4⟩, ?_⟩
        show (if intOf (.int .i64 0) = 0 then leftOf w4 m b.length else 0) < (if intOf (.int .i64 0) = 0 then leftOf wr m b.length else 0)
        have := hs4.at_
        rw [HLE.out, hR4.left, if_pos (show intOf (.int .i64 0) = 0 from rfl), if_pos (show intOf (.int .i64 0) = 0 from rfl)]
        omega
theorem parse_any (g : Nat) (Ab : Option Addr) (cb : Nat) (b : List UInt8) (w : World) (hB : Base w g Ab cb b) :
    Calls Tryd.prog 13 #[.pointer (some ⟨g, 0, none⟩), .slice Ab b.length cb] w (ParsePost w (parseF b)) := by
  by_cases hE : (begE b).1 = 0
  · exact parse_go g Ab cb b w hB hE
  · exact parse_beg g Ab cb b w hB hE
end Go.Proofs.YtkmhmehofipehaaDoor
/- Are blocks few, and short? -/
namespace Go.Proofs.YtkmhmehofipehaaDoor
set_option linter.unusedVariables false
open Go.RowKit
/-- what Few says when it lets blocks through -/
def FewK (w : World) (l : List BlkV) (e : Ending) (w' : World) : Prop := ∃ b, e = .returned (.bool b) ∧ w = w' ∧ (b = true → l.length ≤ 12 ∧ ∀ x ∈ l, x.l.length ≤ 300)
set_option maxHeartbeats 1000000 in
theorem fewK_any (A : Option Addr) (c : Nat) (l : List BlkV) (w : World) (hl : SeesK w A l) (hc : l.length ≤ c ∧ c ≤ maxLen) :
    Calls Tryd.prog 8 #[.slice A l.length c] w (FewK w l) := by
  unfold maxLen at hc
  go_enter Tryd.func8, Tryd.ntmps8
  go_wp2_with fail
  go_loop [3] (fun i => ∃ k : Nat, k ≤ l.length ∧ k ≤ 20 ∧ i = .int .i64 k ∧ ∀ x ∈ l.take k, x.l.length ≤ 300) (fun i => l.length - (intOf i).toNat)
  case atStart => exact ⟨0, by omega, by omega, rfl, by simp⟩
  case round =>
    obtain ⟨k, hk, hk60, rfl, hall⟩ := hrel
    by_cases hlt : k < l.length
    · have d1 : decide ((k : Int) < (l.length : Int)) = true := decide_eq_true (by omega)
      have dkl : (k : Int) < (l.length : Int) := by omega
      by_cases hlt6 : k < 20
      · have d2 : decide ((k : Int) < 20) = true := decide_eq_true (by omega)
        obtain ⟨a, rfl, x1⟩ := hl.at hlt
        by_cases hs : 300 < l[k].l.length
        · have d3 : decide (300 < (l[k].l.length : Int)) = true := decide_eq_true (by omega)
          clear hall
          go_wp2_with fail
          go_ret
          exact ⟨false, rfl, rfl, fun h => by cases h⟩
        · have d3 : decide (300 < (l[k].l.length : Int)) = false := decide_eq_false (by omega)
          go_wp2_with fail
          refine ⟨⟨k + 1, hlt, hlt6, by go_num, fun x hx => ?_⟩, by simp [intOf]; omega⟩
          rw [List.take_succ_eq_append_getElem hlt, List.mem_append] at hx
          rcases hx with h | h
          · exact hall x h
          · rw [List.mem_singleton.1 h]; omega
      · have d2 : decide ((k : Int) < 20) = false := decide_eq_false (by omega)
        have d4 : decide ((l.length : Int) ≤ 12) = false := decide_eq_false (by omega)
        go_wp2_with fail
        go_ret
        exact ⟨_, rfl, rfl, fun h => by cases h⟩
    · obtain rfl : k = l.length := by omega
      have d1 : decide ((l.length : Int) < (l.length : Int)) = false := decide_eq_false (by omega)
      rw [List.take_length] at hall
      by_cases h5 : l.length ≤ 12
      · have d4 : decide ((l.length : Int) ≤ 12) = true := decide_eq_true (by omega)
        go_wp2_with fail
        go_ret
        exact ⟨_, rfl, rfl, fun h => ⟨h5, hall⟩⟩
      · have d4 : decide ((l.length : Int) ≤ 12) = false := decide_eq_false (by omega)
        go_wp2_with fail
        go_ret
        exact ⟨_, rfl, rfl, fun h => by cases h⟩
end Go.Proofs.YtkmhmehofipehaaDoor
/- Are tags few, and short? -/
namespace Go.Proofs.YtkmhmehofipehaaDoor
set_option linter.unusedVariables false
open Go.RowKit
/-- what Few says when it lets tags through -/
def FewT (w : World) (l : List TagV) (e : Ending) (w' : World) : Prop := ∃ b, e = .returned (.bool b) ∧ w = w' ∧ (b = true → l.length ≤ 70 ∧ ∀ x ∈ l, x.k.size ≤ 100 ∧ x.v.size ≤ 1500)
set_option maxHeartbeats 1000000 in
theorem fewT_any (A : Option Addr) (c : Nat) (l : List TagV) (w : World) (hl : SeesT w A l) (hc : l.length ≤ c ∧ c ≤ maxLen) :
    Calls Tryd.prog 7 #[.slice A l.length c] w (FewT w l) := by
  unfold maxLen at hc
  go_enter Tryd.func7, Tryd.ntmps7
  go_wp2_with fail
  go_loop [3] (fun i => ∃ k : Nat, k ≤ l.length ∧ k ≤ 100 ∧ i = .int .i64 k ∧ ∀ x ∈ l.take k, x.k.size ≤ 100 ∧ x.v.size ≤ 1500) (fun i => l.length - (intOf i).toNat)
  case atStart => exact ⟨0, by omega, by omega, rfl, by simp⟩
  case round =>
    obtain ⟨k, hk, hk60, rfl, hall⟩ := hrel
    by_cases hlt : k < l.length
    · have d1 : decide ((k : Int) < (l.length : Int)) = true := decide_eq_true (by omega)
      have dkl : (k : Int) < (l.length : Int) := by omega
      by_cases hlt6 : k < 100
      · have d2 : decide ((k : Int) < 100) = true := decide_eq_true (by omega)
        obtain ⟨a, rfl, x1, x2⟩ := hl.at hlt
        by_cases hs : 100 < l[k].k.size
        · have d3 : decide (100 < (l[k].k.size : Int)) = true := decide_eq_true (by omega)
          clear hall
          go_wp2_with fail
          go_ret
          exact ⟨false, rfl, rfl, fun h => by cases h⟩
        · have d3 : decide (100 < (l[k].k.size : Int)) = false := decide_eq_false (by omega)
          by_cases hv : 1500 < l[k].v.size
          · have d4 : decide (1500 < (l[k].v.size : Int)) = true := decide_eq_true (by omega)
            clear hall
            go_wp2_with fail
            go_ret
            exact ⟨false, rfl, rfl, fun h => by cases h⟩
          · have d4 : decide (1500 < (l[k].v.size : Int)) = false := decide_eq_false (by omega)
            go_wp2_with fail
            refine ⟨⟨k + 1, hlt, hlt6, by go_num, fun x hx => ?_⟩, by simp [intOf]; omega⟩
            rw [List.take_succ_eq_append_getElem hlt, List.mem_append] at hx
            rcases hx with h | h
            · exact hall x h
            · rw [List.mem_singleton.1 h]; omega
      · have d2 : decide ((k : Int) < 100) = false := decide_eq_false (by omega)
        have d4 : decide ((l.length : Int) ≤ 70) = false := decide_eq_false (by omega)
        go_wp2_with fail
        go_ret
        exact ⟨_, rfl, rfl, fun h => by cases h⟩
    · obtain rfl : k = l.length := by omega
      have d1 : decide ((l.length : Int) < (l.length : Int)) = false := decide_eq_false (by omega)
      rw [List.take_length] at hall
      by_cases h5 : l.length ≤ 70
      · have d4 : decide ((l.length : Int) ≤ 70) = true := decide_eq_true (by omega)
        go_wp2_with fail
        go_ret
        exact ⟨_, rfl, rfl, fun h => ⟨h5, hall⟩⟩
      · have d4 : decide ((l.length : Int) ≤ 70) = false := decide_eq_false (by omega)
        go_wp2_with fail
        go_ret
        exact ⟨_, rfl, rfl, fun h => by cases h⟩
end Go.Proofs.YtkmhmehofipehaaDoor
/- No tags, checked and laid. -/
namespace Go.Proofs.YtkmhmehofipehaaDoor
set_option linter.unusedVariables false
open Go.RowKit
theorem check_none (A : Option Addr) (c : Nat) (w : World) : Calls Tryd.prog 64 #[.slice A 0 c] w fun e w' => e = .returned (.tuple #[.int .i64 0, .int .i64 0]) ∧ w = w' := by
  go_enter Tryd.func64, Tryd.ntmps64
  go_wp2_with fail
  go_loop [11] (fun i => i = .int .i64 0) (fun _ => 0)
  case atStart => exact rfl
  case round =>
    obtain rfl := hrel
    go_wp2_with fail
    go_ret2
    exact ⟨rfl, rfl⟩
theorem tagput_nil0 (v : Value) (w : World) : Calls Tryd.prog 39 #[.pointer none, v] w fun e w' => e = .returned (.tuple #[.slice none 0 0, .int .i64 2]) ∧ w = w' := by
  go_enter Tryd.func39, Tryd.ntmps39
  go_wp2_with fail
  go_ret2
  exact ⟨rfl, rfl⟩
set_option maxRecDepth 20000 in
set_option maxHeartbeats 2000000 in
theorem tagput_none (g : Nat) (A : Option Addr) (c : Nat) (w : World) (ht : Tab w g) :
    Calls Tryd.prog 39 #[.pointer (some ⟨g, 0, none⟩), .slice A 0 c] w (PutPost w (sealed [84, 71, 0])) := by
  have htg := ht.lt
  go_enter Tryd.func39, Tryd.ntmps39
  go_wp2_with fail
  refine (check_none A c w).mono ?_
  rintro e w1 ⟨rfl, rfl⟩
  have hm := mk_new w
  have hb2 : Below w.heap.size w (w.alloc (.cells #[.int .i64 0, .slice none 0 0] 106)) := (Below.refl _ w).alloc (Nat.le_refl _) _
  have hsz2 : (w.alloc (.cells #[.int .i64 0, .slice none 0 0] 106)).heap.size = w.heap.size + 1 := by simp
  go_wp2_with fail
  generalize w.alloc (.cells #[.int .i64 0, .slice none 0 0] 106) = w2 at *
  have hb3 : Below w2.heap.size w2 (w2.alloc (.cells #[.int .u8 84, .int .u8 71, .int .u8 0] 5)) := (Below.refl _ w2).alloc (Nat.le_refl _) _
  have hs3 : SeesB (w2.alloc (.cells #[.int .u8 84, .int .u8 71, .int .u8 0] 5)) (some ⟨w.heap.size + 1, 0, none⟩) [84, 71, 0] := by
    rw [← hsz2]
    exact Sees.of_block (heap_alloc_new w2 _) rfl
  have hm3 := hm.below hb3
  have hbw3 := hb2.trans (hb3.mono hb2.size)
  clear hm hb3
  generalize w2.alloc (.cells #[.int .u8 84, .int .u8 71, .int .u8 0] 5) = w3 at *
  refine (raw_any w.heap.size _ 0 [] _ 3 [84, 71, 0] w3 hm3 hs3 (by decide)).mono ?_
  rintro e w4 ⟨rfl, R4, hm4, hB4, hR4⟩
  rw [show putRaw (0, []) [84, 71, 0] = (0, [84, 71, 0]) from rfl] at hm4
  have hR4' : ∀ b, R4 b → w.heap.size ≤ b := fun b h => by
    rcases hR4 b h with h | h
    · exact Nat.le_of_eq h.symm
    · have := hm3.lt; omega
  have hbw4 := But.below hbw3 hB4 (fun n h => by omega) hbw3.size
  clear hm3 hs3 hB4 hR4 hbw3 hb2 hsz2
  go_wp2_with fail
  go_loop [33] (fun i => i = .int .i64 0) (fun _ => 0)
  case atStart => exact rfl
  case round =>
    obtain rfl := hrel
    go_wp2_with fail
    refine (bytes_ok w.heap.size R4 [84, 71, 0] w4 hm4 (by decide)).mono ?_
    rintro e w8 ⟨v, rfl, hv⟩
    obtain ⟨A8, c8, rfl, hs8, hA8, ho8, hb8⟩ := hv.parts
    have hbw8 := hbw4.trans (hb8.mono hbw4.size)
    have hm8 := hm4.below hb8
    have hll : ([84, 71, 0] : List UInt8).length = 3 := rfl
    generalize ([84, 71, 0] : List UInt8) = L at *
    have HL := hid hll
    clear hll
    have hsr := sumI_range L
    obtain ⟨S, hS⟩ := Int.eq_ofNat_of_zero_le hsr.1
    go_wp2_with fail
    refine (sum_any g A8 c8 L w8 (ht.keep hbw8 htg) hs8 (by rw [HL.out]; omega)).mono ?_
    rintro e w9 ⟨rfl, rfl⟩
    have hse : sealed L = L ++ bytesLE S 4 := by unfold sealed; rw [hS]; rfl
    have HSE := hid hse
    rw [hS] at hsr ⊢
    have hS4 : S < 4294967296 := by omega
    clear hse hS
    have hp : putU (0, L) S 4 = (0, L ++ bytesLE S 4) := putU_ok _ S 4 (by omega) (by omega)
    have hst := hid (makerU_any w.heap.size R4 0 L S 4 w8 hm8 (by omega) (by rw [HL.out]; omega))
    rw [hp] at hst
    clear hp hv ho8 hs8 hA8
    go_wp2_with fail
    refine hst.out.mono ?_
    rintro e wa ⟨rfl, Ra, hma, hBa, hRa⟩
    have hbwa := But.below hbw8 hBa (fun b h => hR4' b h) hbw8.size
    go_wp2_with fail
    refine (bytes_ok w.heap.size Ra _ wa hma (by rw [List.length_append, bytesLE_length, HL.out]; omega)).mono ?_
    rintro e wb ⟨v, rfl, hv⟩
    have hf : PutPost w (sealed L) (.returned (.tuple #[v, .int .i64 0])) wb := ⟨v, rfl, by rw [HSE.out]; exact hv.lower hbwa⟩
    go_wp2_with fail
    go_ret2
    exact hf
end Go.Proofs.YtkmhmehofipehaaDoor
/- A file without tags and blocks is put together; without a table none is. -/
namespace Go.Proofs.YtkmhmehofipehaaDoor
set_option linter.unusedVariables false
open Go.RowKit
theorem undrewG {B : Nat} {w w' : World} (h : Below B w.drew w') : Below B w w' := ⟨h.os, h.tape, h.output, h.size, h.block⟩
set_option maxHeartbeats 1000000 in
theorem opened_nil (k ch bi ra bl sh : Int) (v : Value) (w : World) :
    Calls Tryd.prog 18 #[.pointer none, .agg #[.int .i64 k, .int .i64 ch, .int .i64 bi, .int .i64 ra, .int .i64 bl, .int .i64 sh], v] w fun e w' => e = .returned (.tuple #[.pointer none, .int .i64 2]) ∧ Below w.heap.size w w' := by
  have hb : Below w.heap.size w (w.alloc (.cells #[.int .i64 k, .int .i64 ch, .int .i64 bi, .int .i64 ra, .int .i64 bl, .int .i64 sh] 25)) := (Below.refl _ w).alloc (Nat.le_refl _) _
  have hrow := heap_alloc_new w (.cells #[.int .i64 k, .int .i64 ch, .int .i64 bi, .int .i64 ra, .int .i64 bl, .int .i64 sh] 25)
  go_enter Tryd.func18, Tryd.ntmps18
  go_wp2_with fail
  refine (iput_nil k ch bi ra bl sh _).mono ?_
  rintro e w1 ⟨rfl, hb1⟩
  go_wp2_with fail
  go_ret2
  exact ⟨rfl, hb.trans (hb1.mono hb.size)⟩
set_option maxHeartbeats 1000000 in
theorem build_nil (k ch bi ra bl sh : Int) (v u : Value) (s : Int) (w : World) :
    Calls Tryd.prog 10 #[.pointer none, .agg #[.int .i64 k, .int .i64 ch, .int .i64 bi, .int .i64 ra, .int .i64 bl, .int .i64 sh], v, u, .int .u32 s] w fun e w' => e = .returned (.tuple #[.slice none 0 0, .int .i64 2]) ∧ Below w.heap.size w w' := by
  have hb : Below w.heap.size w (w.alloc (.cells #[.int .i64 k, .int .i64 ch, .int .i64 bi, .int .i64 ra, .int .i64 bl, .int .i64 sh] 25)) := (Below.refl _ w).alloc (Nat.le_refl _) _
  have hrow := heap_alloc_new w (.cells #[.int .i64 k, .int .i64 ch, .int .i64 bi, .int .i64 ra, .int .i64 bl, .int .i64 sh] 25)
  go_enter Tryd.func10, Tryd.ntmps10
  go_wp2_with fail
  refine (opened_nil k ch bi ra bl sh v _).mono ?_
  rintro e w1 ⟨rfl, hb1⟩
  go_wp2_with fail
  go_ret2
  exact ⟨rfl, hb.trans (hb1.mono hb.size)⟩
/-- a file on its way, as it begins -/
def Begun (w : World) (g : Nat) (k ch bi ra bl sh : Nat) (out : List UInt8) (e : Ending) (w' : World) : Prop :=
  ∃ (m : Nat) (A : Option Addr) (c : Nat), e = .returned (.tuple #[.pointer (some ⟨m, 0, none⟩), .int .i64 0]) ∧ w'.heap[m]? = some (.cells #[.pointer (some ⟨g, 0, none⟩), .int .i64 k, .int .i64 ch, .int .i64 bi, .int .i64 ra, .int .i64 bl, .int .i64 sh, .slice A out.length c, .slice none 0 0, .int .i64 0, .bool false] 70 (0, 0)) ∧
    w'.ownsRow w.heap.size 5 1 (.slice A out.length c) out.length (out.map byteV) ∧ w.heap.size ≤ m ∧ Below w.heap.size w w'
set_option maxRecDepth 20000 in
set_option maxHeartbeats 4000000 in
theorem opened_none (g : Nat) (k ch bi ra bl sh : Nat) (A0 : Option Addr) (c0 : Nat) (w : World) (ht : Tab w g) (hr : rightI k ch bi ra bl sh = true) (hk : k < 256 ∧ ch < 256 ∧ bi < 256 ∧ sh < 256 ∧ ra < 16777216 ∧ bl < 4294967296) (out : List UInt8) (ho : out = sealed (infoHead k ch bi sh ra bl) ++ sealed [84, 71, 0]) :
    Calls Tryd.prog 18 #[.pointer (some ⟨g, 0, none⟩), .agg #[.int .i64 k, .int .i64 ch, .int .i64 bi, .int .i64 ra, .int .i64 bl, .int .i64 sh], .slice A0 0 c0] w (Begun w g k ch bi ra bl sh out) := by
  obtain ⟨X, hX⟩ : ∃ X, X = sealed (infoHead k ch bi sh ra bl) := ⟨_, rfl⟩
  obtain ⟨Y, hY⟩ : ∃ Y, Y = sealed [84, 71, 0] := ⟨_, rfl⟩
  have hXl : X.length = 19 := by rw [hX]; simp [sealed, infoHead, bytesLE_length]
  have hYl : Y.length = 7 := by rw [hY]; simp [sealed, bytesLE_length]
  have hb : Below w.heap.size w (w.alloc (.cells #[.int .i64 k, .int .i64 ch, .int .i64 bi, .int .i64 ra, .int .i64 bl, .int .i64 sh] 25)) := (Below.refl _ w).alloc (Nat.le_refl _) _
  have hrow := heap_alloc_new w (.cells #[.int .i64 k, .int .i64 ch, .int .i64 bi, .int .i64 ra, .int .i64 bl, .int .i64 sh] 25)
  have P1 := hid (fun W h => iput_ok g k ch bi ra bl sh W h hr hk)
  have P2 := hid (fun W h => tagput_none g A0 c0 W h)
  rw [← hX] at P1
  rw [← hY] at P2
  have HXL := hid hXl
  have HYL := hid hYl
  rw [← hX, ← hY] at ho
  have HO := hid ho
  clear hX hY hXl hYl ho hr hk
  have ht0 := ht.keep hb ht.lt
  go_enter Tryd.func18, Tryd.ntmps18
  go_wp2_with fail
  generalize hw0 : w.alloc (.cells #[.int .i64 k, .int .i64 ch, .int .i64 bi, .int .i64 ra, .int .i64 bl, .int .i64 sh] 25) = w0 at *
  clear hw0
  have c0 : w0.cell? ⟨w.heap.size, 0, none⟩ = some (.int .i64 (k : Int)) := by rw [cell_of_row _ _ _ _ _ _ hrow]; rfl
  have c1 : w0.cell? ⟨w.heap.size, 1, none⟩ = some (.int .i64 (ch : Int)) := by rw [cell_of_row _ _ _ _ _ _ hrow]; rfl
  have c2 : w0.cell? ⟨w.heap.size, 2, none⟩ = some (.int .i64 (bi : Int)) := by rw [cell_of_row _ _ _ _ _ _ hrow]; rfl
  have c3 : w0.cell? ⟨w.heap.size, 3, none⟩ = some (.int .i64 (ra : Int)) := by rw [cell_of_row _ _ _ _ _ _ hrow]; rfl
  have c4 : w0.cell? ⟨w.heap.size, 4, none⟩ = some (.int .i64 (bl : Int)) := by rw [cell_of_row _ _ _ _ _ _ hrow]; rfl
  have c5 : w0.cell? ⟨w.heap.size, 5, none⟩ = some (.int .i64 (sh : Int)) := by rw [cell_of_row _ _ _ _ _ _ hrow]; rfl
  clear hrow
  refine (P1.out w0 ht0).mono ?_
  rintro e w1 ⟨v, rfl, hv⟩
  obtain ⟨A1, d1, rfl, hs1, hA1, ho1, hb1⟩ := hv.parts
  have hbw1 := hb.trans (hb1.mono hb.size)
  have ht1 := ht0.keep hb1 ht0.lt
  replace c0 := keep1 hb1 c0
  replace c1 := keep1 hb1 c1
  replace c2 := keep1 hb1 c2
  replace c3 := keep1 hb1 c3
  replace c4 := keep1 hb1 c4
  replace c5 := keep1 hb1 c5
  clear hb hb1 hv hA1 ho1
  go_wp2_with fail
  refine (P2.out w1 ht1).mono ?_
  rintro e w2 ⟨v, rfl, hv⟩
  obtain ⟨A2, d2, rfl, hs2, hA2, ho2, hb2⟩ := hv.parts
  have hbw2 := hbw1.trans (hb2.mono hbw1.size)
  replace hs1 := hs1.below hb2
  replace c0 := keep1 hb2 c0
  replace c1 := keep1 hb2 c1
  replace c2 := keep1 hb2 c2
  replace c3 := keep1 hb2 c3
  replace c4 := keep1 hb2 c4
  replace c5 := keep1 hb2 c5
  clear hbw1 hb2 hv hA2 ho2 ht1 ht0
  go_wp2_with fail
  have hbA : Below w2.heap.size w2 (w2.drew.alloc (.cells #[.slice A1 X.length d1, .slice A2 Y.length d2] 32)) := ((Below.refl _ w2).drew).alloc (Nat.le_refl _) _
  have h0l : 0 < X.length + Y.length := by have := HXL.out; omega
  have hll : X.length + Y.length ≤ 70368744177664 := by have := HXL.out; have := HYL.out; omega
  go_region_held3 (fun w' => w'.cell? ⟨w.heap.size, 0, none⟩ = some (.int .i64 (k : Int)) ∧ w'.cell? ⟨w.heap.size, 1, none⟩ = some (.int .i64 (ch : Int)) ∧ w'.cell? ⟨w.heap.size, 2, none⟩ = some (.int .i64 (bi : Int)) ∧ w'.cell? ⟨w.heap.size, 3, none⟩ = some (.int .i64 (ra : Int)) ∧ w'.cell? ⟨w.heap.size, 4, none⟩ = some (.int .i64 (bl : Int)) ∧ w'.cell? ⟨w.heap.size, 5, none⟩ = some (.int .i64 (sh : Int))) (first | exact ⟨c0, c1, c2, c3, c4, c5⟩ | exact ⟨f0, f1, f2, f3, f4, f5⟩ | go_keep)
    (first | (go_at_call 40; refine (concat_two w2.heap.size A1 A2 d1 d2 X Y _ ?_ ?_ ?_ h0l hll).mono ?_; exact heap_alloc_new w2.drew _; exact hs1.below hbA; exact hs2.below hbA; rintro e w3 ⟨v, rfl, hv⟩; obtain ⟨A3, d3, rfl, hs3, hA3, ho3, hb3⟩ := hv.parts; have f0 := keep1 hb3 (keep1 hbA c0); have f1 := keep1 hb3 (keep1 hbA c1); have f2 := keep1 hb3 (keep1 hbA c2); have f3 := keep1 hb3 (keep1 hbA c3); have f4 := keep1 hb3 (keep1 hbA c4); have f5 := keep1 hb3 (keep1 hbA c5)))
  have hbw3 := (hbw2.trans (hbA.mono hbw2.size)).trans (hb3.mono (Nat.le_trans hbw2.size hbA.size))
  have hfin : Begun w g k ch bi ra bl sh (X ++ Y) (.returned (.tuple #[.pointer (some ⟨w3.heap.size, 0, none⟩), .int .i64 0])) (w3.alloc (.cells #[.pointer (some ⟨g, 0, none⟩), .int .i64 k, .int .i64 ch, .int .i64 bi, .int .i64 ra, .int .i64 bl, .int .i64 sh, .slice A3 (X.length + Y.length) d3, .slice none 0 0, .int .i64 0, .bool false] 70)) := by
    rw [← List.length_append]
    exact ⟨w3.heap.size, A3, d3, rfl, heap_alloc_new _ _, (Joins.ownsRow_le ho3 (Nat.le_trans hbw2.size hbA.size)).alloc _, hbw3.size, hbw3.alloc hbw3.size _⟩
  obtain rfl : out = X ++ Y := HO.out
  clear hb3 ho3 hs3 hv hA3 c0 c1 c2 c3 c4 c5 f0 f1 f2 f3 f4 f5 hs1 hs2
  go_wp2_with fail
  go_ret2
  exact hfin
theorem own_keep {w w' : World} {base : Nat} {e : TypeId} {size : Nat} {v : Value} {n : Nat} {xs : List Value} (h : w.ownsRow base e size v n xs) (hb : Below w.heap.size w w') : w'.ownsRow base e size v n xs := by
  refine ⟨h.1, ?_⟩
  rcases h.2 with h' | ⟨g, cap, cur, hv, hbg, hg, rest⟩
  · exact .inl h'
  · exact .inr ⟨g, cap, cur, hv, hbg, (hb.block g (Array.getElem?_eq_some_iff.1 hg).1).trans hg, rest⟩
set_option maxRecDepth 20000 in
set_option maxHeartbeats 4000000 in
theorem build_none (g : Nat) (k ch bi ra bl sh s : Nat) (A0 B0 : Option Addr) (c0 d0 : Nat) (w : World) (ht : Tab w g) (hr : rightI k ch bi ra bl sh = true) (hk : k < 256 ∧ ch < 256 ∧ bi < 256 ∧ sh < 256 ∧ ra < 16777216 ∧ bl < 4294967296) (hs : s < 4294967296) (out : List UInt8) (ho : out = sealed (infoHead k ch bi sh ra bl) ++ sealed [84, 71, 0]) :
    Calls Tryd.prog 10 #[.pointer (some ⟨g, 0, none⟩), .agg #[.int .i64 k, .int .i64 ch, .int .i64 bi, .int .i64 ra, .int .i64 bl, .int .i64 sh], .slice A0 0 c0, .slice B0 0 d0, .int .u32 (s : Int)] w (PutPost w (out ++ sealed (tailHead 0 s []))) := by
  have hOl : out.length = 26 := by rw [ho]; simp [sealed, infoHead, bytesLE_length]
  have hEl : (sealed (tailHead 0 s [])).length = 18 := by simp [sealed, tailHead_len, bytesLE_length]
  have PO := hid (fun W h => opened_none g k ch bi ra bl sh A0 c0 W h hr hk out ho)
  have PT := hid (show ∀ W, Tab W g → Calls Tryd.prog 20 #[.pointer (some ⟨g, 0, none⟩), .agg #[.int .i64 0, .int .u32 (s : Int), .slice none 0 0]] W (PutPost W (sealed (tailHead 0 s []))) from fun W h => tput_ok g 0 s none 0 [] W h (Sees.nil _ _) (by decide) (by decide) (by decide) hs (fun i h => by simp at h))
  have HOL := hid hOl
  generalize sealed (tailHead 0 s []) = E at *
  have HEL := hid hEl
  have hmm : (out ++ E).map byteV = out.map byteV ++ E.map byteV := List.map_append
  have hll : out.length + E.length = (out ++ E).length := (List.length_append).symm
  have HM := hid hmm
  have HL := hid hll
  have HOE := hid (show ∀ u ∈ E.map byteV, u.oneCell' = true by simp [byteV, Value.oneCell'])
  have HEM := hid (show (E.map byteV).length = E.length by simp)
  generalize hOE : out ++ E = OE at *
  clear hOE hOl hEl ho hr hk hmm hll
  have hb : Below w.heap.size w (w.alloc (.cells #[.int .i64 k, .int .i64 ch, .int .i64 bi, .int .i64 ra, .int .i64 bl, .int .i64 sh] 25)) := (Below.refl _ w).alloc (Nat.le_refl _) _
  have hrow := heap_alloc_new w (.cells #[.int .i64 k, .int .i64 ch, .int .i64 bi, .int .i64 ra, .int .i64 bl, .int .i64 sh] 25)
  have ht0 := ht.keep hb ht.lt
  go_enter Tryd.func10, Tryd.ntmps10
  go_wp2_with fail
  generalize hw0 : w.alloc (.cells #[.int .i64 k, .int .i64 ch, .int .i64 bi, .int .i64 ra, .int .i64 bl, .int .i64 sh] 25) = w0 at *
  clear hw0 hrow
  refine (PO.out w0 ht0).mono ?_
  rintro e w1 ⟨m, A, c, rfl, hrow, hown, hm, hb1⟩
  have hbw1 := hb.trans (hb1.mono hb.size)
  have ht1 := ht0.keep hb1 ht0.lt
  have hown1 := Joins.ownsRow_le hown hb.size
  have hmw : w.heap.size ≤ m := Nat.le_trans hb.size hm
  have e7 : w1.cell? ⟨m, 7, none⟩ = some (.slice A out.length c) := by rw [cell_of_row _ _ _ _ _ _ hrow]; rfl
  have e8 : w1.cell? ⟨m, 8, none⟩ = some (.slice none 0 0) := by rw [cell_of_row _ _ _ _ _ _ hrow]; rfl
  have e9 : w1.cell? ⟨m, 9, none⟩ = some (.int .i64 0) := by rw [cell_of_row _ _ _ _ _ _ hrow]; rfl
  clear hb hb1 hown hm hrow ht0
  go_wp2_with fail
  go_loop [30] (fun i => i = .int .i64 0) (fun _ => 0)
  case atStart => exact rfl
  case round =>
    obtain rfl := hrel
    go_wp2_with fail
    go_region_held3 (fun w' => w'.cell? ⟨m, 7, none⟩ = some (.slice A out.length c) ∧ w'.cell? ⟨m, 8, none⟩ = some (.slice none 0 0) ∧ w'.cell? ⟨m, 9, none⟩ = some (.int .i64 0)) (first | exact ⟨e7, e8, e9⟩ | exact ⟨f7, f8, f9⟩ | go_keep)
      (first | (go_at_call 20; refine (PT.out _ ?_).mono ?_; exact ht1; rintro e w2 ⟨v, rfl, hv⟩; obtain ⟨A2, c2, rfl, hs2, hA2, ho2, hb2⟩ := hv.parts; have f7 := keep1 hb2 e7; have f8 := keep1 hb2 e8; have f9 := keep1 hb2 e9))
    have hb2' : Below w1.heap.size w1 w2 := undrewG hb2
    have hbw2 := hbw1.trans (hb2'.mono hbw1.size)
    have hown2 := own_keep hown1 hb2'
    clear hb2 hb2' hown1 hv ho2 hA2 e7 e8 e9 f8 f9 hbw1 ht1
    go_wp2_with (at_builtin; refine wpList_app rfl (.tmp 62) (.tmp 63) _ rfl elB rfl hown2 A2 E.length c2 rfl (E.map byteV) hs2 (by rw [HEM.out]; omega) HOE.out OE.length HL.out (OE.map byteV) HM.out.symm (by have := HL.out; have := HOL.out; have := HEL.out; unfold maxLen; omega) (by have := HL.out; have := HOL.out; have := HEL.out; omega) hbw2.size ?_; intro A3 c3 w3 hown3 hgr hat hbel)
    go_ret2
    exact ⟨_, rfl, A3, c3, rfl, hown3, hbw2.trans hbel⟩
end Go.Proofs.YtkmhmehofipehaaDoor
/- The fixed calls of the statements of layer 29. -/
namespace Go.Proofs.YtkmhmehofipehaaDoor
set_option linter.unusedVariables false
open Go.RowKit
set_option maxRecDepth 20000 in
set_option maxHeartbeats 1000000 in
theorem known_any (w : World) :
    Calls Tryd.prog 9 #[] w fun e w' => e = .returned (.bool true) ∧ Below w.heap.size w w' := by
  obtain ⟨R, hR⟩ : ∃ R, R = sealed (infoHead 1 1 8 0 1 256) ++ sealed [84, 71, 0] ++ sealed (tailHead 0 0 []) := ⟨_, rfl⟩
  have hR44 : R.length = 44 := by rw [hR]; simp [sealed, infoHead, tailHead_len, bytesLE_length]
  have HB := hid (show ∀ g W, Tab W g → Calls Tryd.prog 10 #[.pointer (some ⟨g, 0, none⟩), .agg #[.int .i64 1, .int .i64 1, .int .i64 8, .int .i64 1, .int .i64 256, .int .i64 0], .slice none 0 0, .slice none 0 0, .int .u32 0] W (PutPost W R) from fun g W h => by
    rw [hR]
    exact build_none g 1 1 8 1 256 0 0 none none 0 0 W h (by decide) (by decide) (by decide) _ rfl)
  have HR := hid hR44
  clear hR hR44
  go_enter Tryd.func9, Tryd.ntmps9
  go_wp2_with fail
  refine (make_any _).mono ?_
  rintro e w1 ⟨rfl, hb1, ht1⟩
  go_wp2_with fail
  refine (HB.out _ _ ht1).mono ?_
  rintro e w2 ⟨v, rfl, hv⟩
  obtain ⟨A, c, rfl, hs, hA, ho, hb2⟩ := hv.parts
  have hbw := hb1.trans (hb2.mono hb1.size)
  clear hv hs hA ho hb1 hb2
  rw [HR.out]
  go_wp2_with fail
  go_ret
  exact ⟨rfl, hbw⟩
end Go.Proofs.YtkmhmehofipehaaDoor
