/- A file taken apart, by the program. -/
import Derived.Test.YtkmhmehofipehaaDoorK20
import Derived.Test.YtkmhmehofipehaaDoorK23
import Derived.Test.YtkmhmehofipehaaDoorK3
import Derived.WalkMore
import Derived.Test.YtkmhmehofipehaaDoorK17
import Derived.Test.YtkmhmehofipehaaDoorK22
import Derived.Test.YtkmhmehofipehaaDoorK12
import Derived.Test.YtkmhmehofipehaaDoorK9
import Derived.BigQuiet
import Derived.Laws.StructEq
import Derived.WalkSpells
import Derived.WalkLawsBesides
import Derived.Test.YtkmhmehofipehaaDoorK2
namespace Go.Proofs.YtkmhmehofipehaaDoor
set_option linter.unusedVariables false
open Go.RowKit
/-- a file that was read, in memory -/
def ParsePost (w : World) (r : Int × FileV) (e : Ending) (w' : World) : Prop :=
  ∃ (At : Option Addr) (ct : Nat) (Ak : Option Addr) (ck : Nat) (Ax : Option Addr) (cx : Nat) (L : List BlkM),
    e = .returned (.tuple #[.agg #[.int .i64 r.2.i.k, .int .i64 r.2.i.ch, .int .i64 r.2.i.bi, .int .i64 r.2.i.ra, .int .i64 r.2.i.bl, .int .i64 r.2.i.sh, .slice At r.2.l.length ct, .slice Ak L.length ck, .int .i64 r.2.cnt, .int .u32 r.2.sum, .slice Ax r.2.pl.length cx], .int .i64 r.1]) ∧
    SeesT w' At r.2.l ∧ r.2.l.length ≤ ct ∧ Sees w' Ak (flatM L) ∧ r.2.bl = L.map BlkM.plain ∧ (∀ x ∈ L, SeesB w' x.A x.p ∧ x.p.length ≤ x.c ∧ x.c ≤ maxLen) ∧ L.length ≤ ck ∧ ck ≤ maxLen ∧
    SeesI w' Ax r.2.pl ∧ r.2.pl.length ≤ cx ∧ cx ≤ maxLen ∧ Below w.heap.size w w'
theorem parse_bad {w w' : World} (E : Int) (hb : Below w.heap.size w w') : ParsePost w (E, FileV.zero) (.returned (.tuple #[.agg #[.int .i64 0, .int .i64 0, .int .i64 0, .int .i64 0, .int .i64 0, .int .i64 0, .slice none 0 0, .slice none 0 0, .int .i64 0, .int .u32 0, .slice none 0 0], .int .i64 E])) w' :=
  ⟨none, 0, none, 0, none, 0, [], rfl, (fun i h => by simp [FileV.zero] at h), Nat.le_refl _, Sees.nil _ _, rfl, (fun x hx => by simp at hx), Nat.le_refl _, Nat.zero_le _, Sees.nil _ _, Nat.le_refl _, Nat.zero_le _, hb⟩
theorem infoOf_right {b : List UInt8} (h : (getI b).1 = 0) : (infoOf b).right = true := by
  obtain ⟨k, ch, bi, ra, bl, sh, h1, h2, _⟩ := getI_good b h
  unfold infoOf InfoV.right
  rw [h1]
  exact h2
/-- how much is not read yet, as the reader has it in memory -/
def leftOf (w : World) (m n : Nat) : Nat := n + 1 - (match w.cell? ⟨m, 12, none⟩ with | some v => (intOf v).toNat | none => 0)
theorem leftOf_is {w : World} {m n p : Nat} (h : w.cell? ⟨m, 12, none⟩ = some (.int .i64 (p : Int))) : leftOf w m n = n + 1 - p := by
  unfold leftOf
  rw [h]
  rfl
theorem Rdr.left {w0 w1 w : World} {m g : Nat} {i : InfoV} {Ab : Option Addr} {cb : Nat} {b : List UInt8} {At : Option Addr} {nt ct : Nat} {s : PS} {L : List BlkM} (h : Rdr w0 w1 w m g i Ab cb b At nt ct s L) (n : Nat) : leftOf w m n = n + 1 - s.at_ := by
  obtain ⟨Ap, cp, Ak, ck, hm, _⟩ := h
  exact leftOf_is (by rw [cell_of_row _ _ _ _ _ _ hm]; rfl)
theorem Rdr.rest {w0 w1 w : World} {m g : Nat} {i : InfoV} {Ab : Option Addr} {cb : Nat} {b : List UInt8} {At : Option Addr} {nt ct : Nat} {s : PS} {L : List BlkM} (h : Rdr w0 w1 w m g i Ab cb b At nt ct s L) (hB : Base w0 g Ab cb b) (hs : s.ok b) :
    Calls Tryd.prog 30 #[.pointer (some ⟨m, 0, none⟩)] w (RestPost w (b.drop s.at_)) := by
  obtain ⟨Ap, cp, Ak, ck, hm, _, _, _, _, hw, _⟩ := h
  exact rest_any m _ 85 Ab cb s.at_ b w hm rfl rfl (hB.sees.below hw) hB.cap.1 hB.cap.2 hs.at_
theorem Rdr.below {w0 w1 w w' : World} {m g : Nat} {i : InfoV} {Ab : Option Addr} {cb : Nat} {b : List UInt8} {At : Option Addr} {nt ct : Nat} {s : PS} {L : List BlkM} (h : Rdr w0 w1 w m g i Ab cb b At nt ct s L) (hb : Below w.heap.size w w') : Rdr w0 w1 w' m g i Ab cb b At nt ct s L := by
  obtain ⟨Ap, cp, Ak, ck, hm, hp, hk, hpay, hbl, hw, hbut⟩ := h
  exact ⟨Ap, cp, Ak, ck, (hb.block m (Array.getElem?_eq_some_iff.1 hm).1).trans hm, own_keepF hp hb, own_keepF hk hb, hpay.below hb, hbl, hw.trans (hb.mono hw.size), hbut.trans (But.of_below (R := fun _ => False) hb) (fun n h => h.elim)⟩
theorem Rdr.start {w0 w1 : World} {m g : Nat} {i : InfoV} {Ab : Option Addr} {cb : Nat} {b : List UInt8} {At : Option Addr} {nt ct n : Nat} (hm : w1.heap[m]? = some (.cells (RdCells g i none 0 0 0 false Ab b.length cb (19 + n) i At nt ct none 0 0 0 0 none 0 0) 85 (0, 0))) (hw : Below w0.heap.size w0 w1) :
    Rdr w0 w1 w1 m g i Ab cb b At nt ct (begP n) [] :=
  ⟨none, 0, none, 0, hm, own_nil _ _ _ _, own_nil _ _ _ _, (fun x hx => by simp at hx), rfl, hw, But.refl _ _⟩
theorem Rdr.bl {w0 w1 w : World} {m g : Nat} {i : InfoV} {Ab : Option Addr} {cb : Nat} {b : List UInt8} {At : Option Addr} {nt ct : Nat} {s : PS} {L : List BlkM} (h : Rdr w0 w1 w m g i Ab cb b At nt ct s L) : s.bl = L.map BlkM.plain := by
  obtain ⟨Ap, cp, Ak, ck, hm, hp, hk, hpay, hbl, hw, hbut⟩ := h
  exact hbl
theorem zeroF_is (j : Nat) (v : Value) (h : (#[.int .i64 0, .int .i64 0, .int .i64 0, .int .i64 0, .int .i64 0, .int .i64 0, .slice none 0 0, .slice none 0 0, .int .i64 0, .int .u32 0, .slice none 0 0] : Array Value)[j]? = some v) : v = .int .i64 0 ∨ v = .slice none 0 0 ∨ v = .int .u32 0 := by
  have hk : j < 11 := (Array.getElem?_eq_some_iff.1 h).1
  obtain rfl | rfl | rfl | rfl | rfl | rfl | rfl | rfl | rfl | rfl | rfl : j = 0 ∨ j = 1 ∨ j = 2 ∨ j = 3 ∨ j = 4 ∨ j = 5 ∨ j = 6 ∨ j = 7 ∨ j = 8 ∨ j = 9 ∨ j = 10 := by omega
  all_goals (simp at h; subst h; simp)
theorem zeroF_nob (j : Nat) (z : Int) : (#[.int .i64 0, .int .i64 0, .int .i64 0, .int .i64 0, .int .i64 0, .int .i64 0, .slice none 0 0, .slice none 0 0, .int .i64 0, .int .u32 0, .slice none 0 0] : Array Value)[j]? ≠ some (.int .u8 z) := by
  intro h
  have h1 := zeroF_is j _ h
  simp at h1
theorem SeesB.butNob {w w' : World} {A : Option Addr} {l : List UInt8} {q : Nat} {cs : Array Value} {t : TypeId} {fr : Nat × Nat} (h : SeesB w A l) (hb : But (Only q) w w') (hq : w.heap[q]? = some (.cells cs t fr)) (hcs : ∀ (j : Nat) (z : Int), cs[j]? ≠ some (.int .u8 z)) : SeesB w' A l := by
  intro i v hv
  obtain ⟨a, ha, hc⟩ := h i v hv
  refine ⟨a, ha, (World.cell?_of_block (w := w) (hb.block _ (block_lt_of_cell hc) ?_)).trans hc⟩
  intro hxm
  have hxm2 : (a.add i).block = q := hxm
  rw [List.getElem?_map] at hv
  obtain ⟨x, _, rfl⟩ := Option.map_eq_some_iff.1 hv
  generalize a.add i = y at *
  obtain ⟨xb, xo, xi⟩ := y
  simp only at hxm2
  subst hxm2
  simp only [World.cell?, hq] at hc
  cases xi with
  | none => exact hcs _ _ hc
  | some y => simp at hc
theorem SeesT.butZ {w w' : World} {A : Option Addr} {l : List TagV} {q : Nat} {t : TypeId} {fr : Nat × Nat} (h : SeesT w A l) (hb : But (Only q) w w') (hq : w.heap[q]? = some (.cells #[.int .i64 0, .int .i64 0, .int .i64 0, .int .i64 0, .int .i64 0, .int .i64 0, .slice none 0 0, .slice none 0 0, .int .i64 0, .int .u32 0, .slice none 0 0] t fr)) : SeesT w' A l := by
  intro k hk
  obtain ⟨a, ha, h0, h1⟩ := h k hk
  have key : ∀ (x : Addr) (s : ByteArray), w.cell? x = some (.string s) → w'.cell? x = some (.string s) := by
    intro x s hx
    refine (World.cell?_of_block (w := w) (hb.block _ (block_lt_of_cell hx) ?_)).trans hx
    intro hxm
    have hxm2 : x.block = q := hxm
    obtain ⟨xb, xo, xi⟩ := x
    simp only at hxm2
    subst hxm2
    simp only [World.cell?, hq] at hx
    cases xi with
    | none => have h3 := zeroF_is _ _ hx; simp at h3
    | some y => simp at hx
  exact ⟨a, ha, key _ _ h0, key _ _ h1⟩
theorem Rdr.lt {w0 w1 w : World} {m g : Nat} {i : InfoV} {Ab : Option Addr} {cb : Nat} {b : List UInt8} {At : Option Addr} {nt ct : Nat} {s : PS} {L : List BlkM} (h : Rdr w0 w1 w m g i Ab cb b At nt ct s L) : Below w0.heap.size w0 w := by
  obtain ⟨Ap, cp, Ak, ck, hm, hp, hk, hpay, hbl, hw, hbut⟩ := h
  exact hw
set_option maxRecDepth 20000 in
set_option maxHeartbeats 8000000 in
theorem parse_beg (g : Nat) (Ab : Option Addr) (cb : Nat) (b : List UInt8) (w : World) (hB0 : Base w g Ab cb b) (hE : (begE b).1 ≠ 0) :
    Calls Tryd.prog 13 #[.pointer (some ⟨g, 0, none⟩), .slice Ab b.length cb] w (ParsePost w (parseF b)) := by
  have hR : parseF b = ((begE b).1, FileV.zero) := by
    unfold begE at hE ⊢
    unfold parseF
    by_cases h1 : (getI b).1 ≠ 0
    · rw [if_pos h1, if_pos h1]
    · rw [if_neg h1] at hE
      rw [if_neg h1, if_pos hE, if_neg h1]
  obtain ⟨E, hEq⟩ : ∃ E, E = (begE b).1 := ⟨_, rfl⟩
  rw [← hEq] at hE hR
  have dE : (E == 0) = false := by simpa using hE
  have dE1 : (E != 0) = true := by simpa using hE
  have dE2 : decide (E = 0) = false := decide_eq_false hE
  have HEQ := hid hEq.symm
  clear hEq hE
  have hz0 := heap_alloc_new w (.cells #[.int .i64 0, .int .i64 0, .int .i64 0, .int .i64 0, .int .i64 0, .int .i64 0, .slice none 0 0, .slice none 0 0, .int .i64 0, .int .u32 0, .slice none 0 0] 45)
  have hbz : Below w.heap.size w (w.alloc (.cells #[.int .i64 0, .int .i64 0, .int .i64 0, .int .i64 0, .int .i64 0, .int .i64 0, .slice none 0 0, .slice none 0 0, .int .i64 0, .int .u32 0, .slice none 0 0] 45)) := (Below.refl _ w).alloc (Nat.le_refl _) _
  have hsz : (w.alloc (.cells #[.int .i64 0, .int .i64 0, .int .i64 0, .int .i64 0, .int .i64 0, .int .i64 0, .slice none 0 0, .slice none 0 0, .int .i64 0, .int .u32 0, .slice none 0 0] 45)).heap.size = w.heap.size + 1 := by simp
  have hB : Base (w.alloc (.cells #[.int .i64 0, .int .i64 0, .int .i64 0, .int .i64 0, .int .i64 0, .int .i64 0, .slice none 0 0, .slice none 0 0, .int .i64 0, .int .u32 0, .slice none 0 0] 45)) g Ab cb b := ⟨hB0.tab.keep hbz hB0.tab.lt, hB0.sees.below hbz, hB0.cap, hB0.tabs.below hbz, hB0.len⟩
  have HR := hid hR
  go_enter Tryd.func13, Tryd.ntmps13
  clear hR
  go_wp2_with fail
  go_step3
  go_wp2_with fail
  generalize w.alloc (.cells #[.int .i64 0, .int .i64 0, .int .i64 0, .int .i64 0, .int .i64 0, .int .i64 0, .slice none 0 0, .slice none 0 0, .int .i64 0, .int .u32 0, .slice none 0 0] 45) = wz at *
  have hm0 := heap_alloc_new wz (.cells #[.pointer (some ⟨g, 0, none⟩), .int .i64 0, .int .i64 0, .int .i64 0, .int .i64 0, .int .i64 0, .int .i64 0, .slice none 0 0, .slice none 0 0, .int .i64 0, .bool false, .slice Ab b.length cb, .int .i64 0, .int .i64 0, .int .i64 0, .int .i64 0, .int .i64 0, .int .i64 0, .int .i64 0, .slice none 0 0, .slice none 0 0, .int .i64 0, .int .u32 0, .slice none 0 0] 85)
  have hbr : Below wz.heap.size wz (wz.alloc (.cells #[.pointer (some ⟨g, 0, none⟩), .int .i64 0, .int .i64 0, .int .i64 0, .int .i64 0, .int .i64 0, .int .i64 0, .slice none 0 0, .slice none 0 0, .int .i64 0, .bool false, .slice Ab b.length cb, .int .i64 0, .int .i64 0, .int .i64 0, .int .i64 0, .int .i64 0, .int .i64 0, .int .i64 0, .slice none 0 0, .slice none 0 0, .int .i64 0, .int .u32 0, .slice none 0 0] 85)) := (Below.refl _ wz).alloc (Nat.le_refl _) _
  rw [hsz] at hm0
  have hmle : wz.heap.size ≤ w.heap.size + 1 := by omega
  have hzlt : w.heap.size < wz.heap.size := by omega
  generalize wz.alloc (.cells #[.pointer (some ⟨g, 0, none⟩), .int .i64 0, .int .i64 0, .int .i64 0, .int .i64 0, .int .i64 0, .int .i64 0, .slice none 0 0, .slice none 0 0, .int .i64 0, .bool false, .slice Ab b.length cb, .int .i64 0, .int .i64 0, .int .i64 0, .int .i64 0, .int .i64 0, .int .i64 0, .int .i64 0, .slice none 0 0, .slice none 0 0, .int .i64 0, .int .u32 0, .slice none 0 0] 85) = W at *
  generalize w.heap.size + 1 = m at *
  clear hsz hB0
  refine (begin_any m g b Ab cb wz W hbr hm0 hmle hB).mono ?_
  rintro e w1 ⟨rfl, hw1, hok⟩
  clear hbr hm0
  have hzr := (hw1.block w.heap.size hzlt).trans hz0
  have hbw := hbz.trans (hw1.mono hbz.size)
  rw [HEQ.out]
  clear hok hw1 hz0 hbz HEQ hB hmle hzlt
  go_wp2_with fail
  go_step3
  go_wp2_with fail
  go_loop [7] (fun q => q = .int .i64 E) (fun _ => 0)
  case atStart => exact rfl
  case round =>
    obtain rfl := hrel
    go_wp2_with first | (refine wpList_build rfl 45 _ rfl (.agg #[.int .i64 0, .int .i64 0, .int .i64 0, .int .i64 0, .int .i64 0, .int .i64 0, .slice none 0 0, .slice none 0 0, .int .i64 0, .int .u32 0, .slice none 0 0]) (by kernel_rfl) ?_) | (refine wpList_store_row rfl 45 (.tmp 4) (.tmp 42) rfl rfl w.heap.size rfl #[.int .i64 0, .int .i64 0, .int .i64 0, .int .i64 0, .int .i64 0, .int .i64 0, .slice none 0 0, .slice none 0 0, .int .i64 0, .int .u32 0, .slice none 0 0] rfl 45 #[.int .i64 0, .int .i64 0, .int .i64 0, .int .i64 0, .int .i64 0, .int .i64 0, .slice none 0 0, .slice none 0 0, .int .i64 0, .int .u32 0, .slice none 0 0] hzr (by kernel_rfl) rfl (by simp [Value.oneCell']) ?_)
    (try rw [Exit.noGoto_ret])
    refine bodyPost_ret (v := .tuple #[.agg #[.int .i64 0, .int .i64 0, .int .i64 0, .int .i64 0, .int .i64 0, .int .i64 0, .slice none 0 0, .slice none 0 0, .int .i64 0, .int .u32 0, .slice none 0 0], .int .i64 E]) (results_row_tmp (fn := Tryd.f13) (p := 4) (u := 5) (ty := 45) rfl _ _ w.heap.size _ _ _ _ rfl (setRow_heap _ _ _ _ _ _ hzr) Tryd.underlying45 rfl (by kernel_rfl)) rfl ?_
    rw [HR.out]
    exact parse_bad E (below_setRow hbw (Nat.le_refl _) _)
set_option maxRecDepth 20000 in
set_option maxHeartbeats 8000000 in
theorem parse_go (g : Nat) (Ab : Option Addr) (cb : Nat) (b : List UInt8) (w : World) (hB0 : Base w g Ab cb b) (hE : (begE b).1 = 0) :
    Calls Tryd.prog 13 #[.pointer (some ⟨g, 0, none⟩), .slice Ab b.length cb] w (ParsePost w (parseF b)) := by
  have hI : (getI b).1 = 0 := by
    unfold begE at hE
    by_cases h1 : (getI b).1 ≠ 0
    · rw [if_pos h1] at hE; exact hE
    · simpa using h1
  have hG : begE b = getG (b.drop 19) := by unfold begE; rw [if_neg (by rw [hI]; simp)]
  rw [hG] at hE
  have hbi := (InfoV.range (infoOf_right hI)).2.2.1
  have hl19 := getI_long hI
  have hgr := (getG_range (b.drop 19)).1
  rw [List.length_drop] at hgr
  have hR : parseF b = finP (infoOf b) (getG (b.drop 19)).2.2 b (loopP (infoOf b) b (b.length + 1) (begP (getG (b.drop 19)).2.1)) := by
    unfold parseF
    rw [if_neg (by rw [hI]; simp), if_neg (by rw [hE]; simp)]
  obtain ⟨⟨E, nr, l⟩, hr⟩ : ∃ r, getG (b.drop 19) = r := ⟨_, rfl⟩
  rw [hr] at hG hE hgr hR
  simp only at hE hgr hR
  subst hE
  have hso : (begP nr).ok b := begP_ok (by omega)
  have hfu : b.length - (begP nr).at_ < b.length + 1 := by omega
  have HG := hid hG
  generalize hib : infoOf b = i at *
  have HIB := hid hib
  clear hib
  obtain ⟨P, hP⟩ : ∃ P, P = parseF b := ⟨_, rfl⟩
  rw [← hP] at hR ⊢
  clear hP hI hG hr hgr hl19
  have hz0 := heap_alloc_new w (.cells #[.int .i64 0, .int .i64 0, .int .i64 0, .int .i64 0, .int .i64 0, .int .i64 0, .slice none 0 0, .slice none 0 0, .int .i64 0, .int .u32 0, .slice none 0 0] 45)
  have hbz : Below w.heap.size w (w.alloc (.cells #[.int .i64 0, .int .i64 0, .int .i64 0, .int .i64 0, .int .i64 0, .int .i64 0, .slice none 0 0, .slice none 0 0, .int .i64 0, .int .u32 0, .slice none 0 0] 45)) := (Below.refl _ w).alloc (Nat.le_refl _) _
  have hsz : (w.alloc (.cells #[.int .i64 0, .int .i64 0, .int .i64 0, .int .i64 0, .int .i64 0, .int .i64 0, .slice none 0 0, .slice none 0 0, .int .i64 0, .int .u32 0, .slice none 0 0] 45)).heap.size = w.heap.size + 1 := by simp
  have hB : Base (w.alloc (.cells #[.int .i64 0, .int .i64 0, .int .i64 0, .int .i64 0, .int .i64 0, .int .i64 0, .slice none 0 0, .slice none 0 0, .int .i64 0, .int .u32 0, .slice none 0 0] 45)) g Ab cb b := ⟨hB0.tab.keep hbz hB0.tab.lt, hB0.sees.below hbz, hB0.cap, hB0.tabs.below hbz, hB0.len⟩
  have HR := hid hR
  go_enter Tryd.func13, Tryd.ntmps13
  clear hR
  go_wp2_with fail
  go_step3
  go_wp2_with fail
  generalize w.alloc (.cells #[.int .i64 0, .int .i64 0, .int .i64 0, .int .i64 0, .int .i64 0, .int .i64 0, .slice none 0 0, .slice none 0 0, .int .i64 0, .int .u32 0, .slice none 0 0] 45) = wz at *
  have hm0 := heap_alloc_new wz (.cells #[.pointer (some ⟨g, 0, none⟩), .int .i64 0, .int .i64 0, .int .i64 0, .int .i64 0, .int .i64 0, .int .i64 0, .slice none 0 0, .slice none 0 0, .int .i64 0, .bool false, .slice Ab b.length cb, .int .i64 0, .int .i64 0, .int .i64 0, .int .i64 0, .int .i64 0, .int .i64 0, .int .i64 0, .slice none 0 0, .slice none 0 0, .int .i64 0, .int .u32 0, .slice none 0 0] 85)
  have hbr : Below wz.heap.size wz (wz.alloc (.cells #[.pointer (some ⟨g, 0, none⟩), .int .i64 0, .int .i64 0, .int .i64 0, .int .i64 0, .int .i64 0, .int .i64 0, .slice none 0 0, .slice none 0 0, .int .i64 0, .bool false, .slice Ab b.length cb, .int .i64 0, .int .i64 0, .int .i64 0, .int .i64 0, .int .i64 0, .int .i64 0, .int .i64 0, .slice none 0 0, .slice none 0 0, .int .i64 0, .int .u32 0, .slice none 0 0] 85)) := (Below.refl _ wz).alloc (Nat.le_refl _) _
  rw [hsz] at hm0
  have hmle : wz.heap.size ≤ w.heap.size + 1 := by omega
  have hzlt : w.heap.size < wz.heap.size := by omega
  generalize wz.alloc (.cells #[.pointer (some ⟨g, 0, none⟩), .int .i64 0, .int .i64 0, .int .i64 0, .int .i64 0, .int .i64 0, .int .i64 0, .slice none 0 0, .slice none 0 0, .int .i64 0, .bool false, .slice Ab b.length cb, .int .i64 0, .int .i64 0, .int .i64 0, .int .i64 0, .int .i64 0, .int .i64 0, .int .i64 0, .slice none 0 0, .slice none 0 0, .int .i64 0, .int .u32 0, .slice none 0 0] 85) = W at *
  generalize w.heap.size + 1 = m at *
  clear hsz hB0
  refine (begin_any m g b Ab cb wz W hbr hm0 hmle hB).mono ?_
  rintro e w1 ⟨rfl, hw1, hok⟩
  clear hbr hm0
  rw [HG.out] at hok ⊢
  rw [HIB.out] at hok
  obtain ⟨At, ct, hrow, hst, hct⟩ := hok rfl
  simp only at hrow hst hct
  have hRs := Rdr.start (n := nr) hrow hw1
  have hm1 : m < w1.heap.size := (Array.getElem?_eq_some_iff.1 hrow).1
  have hw01 := hw1.size
  have HROW := hid hrow
  clear hok hrow HG
  go_wp2_with fail
  go_step3
  go_wp2_with fail
  go_loopw [7] (fun q wr => (∃ E, q = .int .i64 E ∧ E ≠ 0 ∧ Below wz.heap.size wz wr ∧ Hid (P = (E, FileV.zero))) ∨ (q = .int .i64 0 ∧ ∃ (n : Nat) (s : PS) (L : List BlkM), Rdr wz w1 wr m g i Ab cb b At l.length ct s L ∧ s.ok b ∧ Hid (P = finP i l b (loopP i b n s)) ∧ b.length - s.at_ < n)) (fun q wr => if intOf q = 0 then leftOf wr m b.length else 0)
  case atStart => exact .inr ⟨rfl, b.length + 1, begP nr, [], hRs, hso, HR, hfu⟩
  case round =>
    clear hRs hso hfu HR
    rcases hrel with ⟨E, rfl, hE, hbr, HE⟩ | ⟨rfl, n, s, L, hR, hs, HN, hn⟩
    · have dE : (E == 0) = false := by simpa using hE
      have dE1 : (E != 0) = true := by simpa using hE
      have dE2 : decide (E = 0) = false := decide_eq_false hE
      have hzr := (hbr.block w.heap.size hzlt).trans hz0
      have hbw := hbz.trans (hbr.mono hbz.size)
      clear hE hbr hz0 hbz hw1 hst hB hmle hzlt hm1 hw01
      go_wp2_with first | (refine wpList_build rfl 45 _ rfl (.agg #[.int .i64 0, .int .i64 0, .int .i64 0, .int .i64 0, .int .i64 0, .int .i64 0, .slice none 0 0, .slice none 0 0, .int .i64 0, .int .u32 0, .slice none 0 0]) (by kernel_rfl) ?_) | (refine wpList_store_row rfl 45 (.tmp 4) (.tmp 42) rfl rfl w.heap.size rfl #[.int .i64 0, .int .i64 0, .int .i64 0, .int .i64 0, .int .i64 0, .int .i64 0, .slice none 0 0, .slice none 0 0, .int .i64 0, .int .u32 0, .slice none 0 0] rfl 45 #[.int .i64 0, .int .i64 0, .int .i64 0, .int .i64 0, .int .i64 0, .int .i64 0, .slice none 0 0, .slice none 0 0, .int .i64 0, .int .u32 0, .slice none 0 0] hzr (by kernel_rfl) rfl (by simp [Value.oneCell']) ?_)
      (try rw [Exit.noGoto_ret])
      refine bodyPost_ret (v := .tuple #[.agg #[.int .i64 0, .int .i64 0, .int .i64 0, .int .i64 0, .int .i64 0, .int .i64 0, .slice none 0 0, .slice none 0 0, .int .i64 0, .int .u32 0, .slice none 0 0], .int .i64 E]) (results_row_tmp (fn := Tryd.f13) (p := 4) (u := 5) (ty := 45) rfl _ _ w.heap.size _ _ _ _ rfl (setRow_heap _ _ _ _ _ _ hzr) Tryd.underlying45 rfl (by kernel_rfl)) rfl ?_
      rw [HE.out]
      exact parse_bad E (below_setRow hbw (Nat.le_refl _) _)
    have hRR := hid hR
    have hdl : (b.drop s.at_).length = b.length - s.at_ := List.length_drop
    have hsat := hs.at_
    have HRT := hid (fun W (hb : Below wr.heap.size wr W) => (hR.below hb).rest hB hs)
    have HBL := hid (fun W (hb : Below wr.heap.size wr W) => block_any m g i Ab cb b At l.length ct s L wz w1 W (hR.below hb) hs hB hmle hbi hw01)
    have HEN := hid (fun W (hb : Below wr.heap.size wr W) => end_any m g i Ab cb b At l.length ct s L wz w1 W (hR.below hb) hs hB hmle hw01)
    obtain ⟨n, rfl⟩ : ∃ k, n = k + 1 := ⟨n - 1, by omega⟩
    have hEX : ∀ W, Below wr.heap.size wr W → b[s.at_]? ≠ some 69 → Calls Tryd.prog 31 #[.pointer (some ⟨m, 0, none⟩)] W fun e w' => ∃ E, e = .returned (.int .i64 E) ∧
        ((E ≠ 0 ∧ Below wz.heap.size wz w' ∧ Hid (P = (E, FileV.zero))) ∨ (E = 0 ∧ ∃ (k : Nat) (s' : PS) (L' : List BlkM), Rdr wz w1 w' m g i Ab cb b At l.length ct s' L' ∧ s'.ok b ∧ Hid (P = finP i l b (loopP i b k s')) ∧ b.length - s'.at_ < k ∧ s.at_ < s'.at_)) := by
      intro W hbW h69
      refine (HBL.out W hbW).mono ?_
      rintro e w' ⟨rfl, hbw', hnx⟩
      refine ⟨_, rfl, ?_⟩
      have hP := HN.out
      rw [loopP, if_neg h69] at hP
      by_cases hz : blkE i b s = 0
      · rw [if_neg (by rw [hz]; simp)] at hP
        obtain ⟨x, hx⟩ := hnx hz
        have h1 : s.at_ + 36 ≤ (s.next i (openH (b.drop s.at_))).at_ := by show s.at_ + 36 ≤ s.at_ + (36 + _); omega
        have h2 := (hs.next hz).at_
        exact .inr ⟨hz, n, _, _, hx, hs.next hz, hP, by omega, by omega⟩
      · rw [if_pos hz] at hP
        refine .inl ⟨hz, hbw', ?_⟩
        rw [hP]
        unfold finP
        rw [if_pos hz]
        rfl
    have HEX := hid hEX
    have hle0 := hR.left b.length
    have HLE := hid hle0
    clear hEX HBL hle0
    have hbr := hR.lt
    generalize hbd : b.drop s.at_ = bd at HRT HEN
    rw [hbd] at hdl
    clear hR hw1
    go_wp2_with fail
    refine (HRT.out wr (Below.refl _ _)).mono ?_
    rintro e w2 ⟨A2, c2, rfl, hs2, hc2, hcm2, hb2⟩
    by_cases hpos : s.at_ < b.length
    · have d0 : decide (0 < bd.length) = true := by rw [hdl]; simp; omega
      have d0' : decide ((0 : Int) < (bd.length : Int)) = true := by rw [hdl]; simp; omega
      have h0 : (0 : Nat) < bd.length := by omega
      have h0i : (0 : Int) < (bd.length : Int) := by omega
      have hb69 : b[s.at_]? = some bd[0] := by
        subst hbd
        rw [List.getElem_drop, List.getElem?_eq_getElem (by omega)]
        rfl
      clear hs2 hdl hbd
      go_wp2_with fail
      refine (HRT.out w2 hb2).mono ?_
      rintro e w3 ⟨A3, c3, rfl, hs3, hc3, hcm3, hb3⟩
      have hb23 := hb2.trans (hb3.mono hb2.size)
      obtain ⟨a3, rfl, ca3⟩ := hs3.at h0
      have ca : w3.cell? a3 = some (.int .u8 (bd[0].toNat : Int)) := ca3
      clear hs3 ca3 hb2 hb3 HRT
      generalize bd[0] = x at *
      by_cases hx : x = 69
      · have d1 : ((x.toNat : Int) == 69) = true := by rw [hx]; rfl
        have HP := hid (show P = finP i l b (0, s) by rw [HN.out, loopP, if_pos (by rw [hb69, hx])])
        clear hx hb69 HEX HN
        go_wp2_with fail
        refine (HEN.out w3 hb23).mono ?_
        rintro e w4 ⟨rfl, hw4, hfin⟩
        clear HEN
        obtain ⟨E, hE⟩ : ∃ E, E = tailE b s := ⟨_, rfl⟩
        rw [← hE] at hfin ⊢
        have HTE := hid hE
        clear hE
        have hzr := (hw4.block w.heap.size hzlt).trans hz0
        have hbw := hbz.trans (hw4.mono hbz.size)
        by_cases hz : E = 0
        · subst hz
          obtain ⟨Ap, cp, Ak, ck, Ax, cx, Ab', cb', p', hm4, hk4, hpay4, hx4, hcx, hcmx, hlk, hckm, hB4, hAk, hAx⟩ := hfin rfl
          have HFIN : ParsePost w P (.returned (.tuple #[.agg #[.int .i64 i.k, .int .i64 i.ch, .int .i64 i.bi, .int .i64 i.ra, .int .i64 i.bl, .int .i64 i.sh, .slice At l.length ct, .slice Ak L.length ck, .int .i64 (getT (b.drop s.at_)).2.2.1, .int .u32 (getT (b.drop s.at_)).2.2.2.1, .slice Ax (getT (b.drop s.at_)).2.2.2.2.length cx], .int .i64 0])) (w4.setRow w.heap.size #[.int .i64 i.k, .int .i64 i.ch, .int .i64 i.bi, .int .i64 i.ra, .int .i64 i.bl, .int .i64 i.sh, .slice At l.length ct, .slice Ak L.length ck, .int .i64 (getT (b.drop s.at_)).2.2.1, .int .u32 (getT (b.drop s.at_)).2.2.2.1, .slice Ax (getT (b.drop s.at_)).2.2.2.2.length cx]) := by
            rw [HP.out]
            unfold finP
            rw [if_neg (by simp), if_neg (by rw [← HTE.out]; simp)]
            have hbl := hRR.out.bl
            have hsT := (hst.butRd hB4 (fun n h => h) HROW.out).butZ (but_row w.heap.size #[.int .i64 i.k, .int .i64 i.ch, .int .i64 i.bi, .int .i64 i.ra, .int .i64 i.bl, .int .i64 i.sh, .slice At l.length ct, .slice Ak L.length ck, .int .i64 (getT (b.drop s.at_)).2.2.1, .int .u32 (getT (b.drop s.at_)).2.2.2.1, .slice Ax (getT (b.drop s.at_)).2.2.2.2.length cx]) hzr
            refine ⟨At, ct, Ak, ck, Ax, cx, L, rfl, hsT, hct, ?_, hbl, fun x hx => ?_, hlk, hckm, ?_, hcx, hcmx, below_setRow hbw (Nat.le_refl _) _⟩
            · exact Sees.setRowFar hk4 w.heap.size _ (fun a ha => by have := hAk a ha; omega)
            · obtain ⟨q1, q2, q3⟩ := hpay4 x hx
              exact ⟨q1.butNob (but_row w.heap.size _) hzr zeroF_nob, q2, q3⟩
            · exact Sees.setRowFar (show Sees w4 Ax (_) from hx4) w.heap.size _ (fun a ha => by have := hAx a ha; omega)
          clear hfin HTE HP hk4 hpay4 hx4 hB4
          go_wp2_with first | (refine wpList_load_part rfl 45 (.tmp 46) rfl m 13 rfl #[.int .i64 i.k, .int .i64 i.ch, .int .i64 i.bi, .int .i64 i.ra, .int .i64 i.bl, .int .i64 i.sh, .slice At l.length ct, .slice Ak L.length ck, .int .i64 (getT (b.drop s.at_)).2.2.1, .int .u32 (getT (b.drop s.at_)).2.2.2.1, .slice Ax (getT (b.drop s.at_)).2.2.2.2.length cx] _ 85 _ (0, 0) hm4 rfl Tryd.underlying45 rfl (by kernel_rfl) ?_) | (refine wpList_store_row rfl 45 (.tmp 4) (.tmp 47) rfl rfl w.heap.size rfl #[.int .i64 i.k, .int .i64 i.ch, .int .i64 i.bi, .int .i64 i.ra, .int .i64 i.bl, .int .i64 i.sh, .slice At l.length ct, .slice Ak L.length ck, .int .i64 (getT (b.drop s.at_)).2.2.1, .int .u32 (getT (b.drop s.at_)).2.2.2.1, .slice Ax (getT (b.drop s.at_)).2.2.2.2.length cx] rfl 45 #[.int .i64 0, .int .i64 0, .int .i64 0, .int .i64 0, .int .i64 0, .int .i64 0, .slice none 0 0, .slice none 0 0, .int .i64 0, .int .u32 0, .slice none 0 0] hzr (by kernel_rfl) rfl (by simp [Value.oneCell']) ?_)
          (try rw [Exit.noGoto_ret])
          refine bodyPost_ret (v := .tuple #[.agg #[.int .i64 i.k, .int .i64 i.ch, .int .i64 i.bi, .int .i64 i.ra, .int .i64 i.bl, .int .i64 i.sh, .slice At l.length ct, .slice Ak L.length ck, .int .i64 (getT (b.drop s.at_)).2.2.1, .int .u32 (getT (b.drop s.at_)).2.2.2.1, .slice Ax (getT (b.drop s.at_)).2.2.2.2.length cx], .int .i64 0]) (results_row_tmp (fn := Tryd.f13) (p := 4) (u := 5) (ty := 45) rfl _ _ w.heap.size _ _ _ _ rfl (setRow_heap _ _ _ _ _ _ hzr) Tryd.underlying45 rfl (by kernel_rfl)) rfl ?_
          exact HFIN
        · have dE : (E == 0) = false := by simpa using hz
          have dE1 : (E != 0) = true := by simpa using hz
          have HF := hid (show P = (E, FileV.zero) by rw [HP.out]; unfold finP; rw [if_neg (by simp), if_pos (by rw [← HTE.out]; exact hz), ← HTE.out])
          clear hfin HTE HP hw4
          go_wp2_with first | (refine wpList_build rfl 45 _ rfl (.agg #[.int .i64 0, .int .i64 0, .int .i64 0, .int .i64 0, .int .i64 0, .int .i64 0, .slice none 0 0, .slice none 0 0, .int .i64 0, .int .u32 0, .slice none 0 0]) (by kernel_rfl) ?_) | (refine wpList_store_row rfl 45 (.tmp 4) (.tmp 42) rfl rfl w.heap.size rfl #[.int .i64 0, .int .i64 0, .int .i64 0, .int .i64 0, .int .i64 0, .int .i64 0, .slice none 0 0, .slice none 0 0, .int .i64 0, .int .u32 0, .slice none 0 0] rfl 45 #[.int .i64 0, .int .i64 0, .int .i64 0, .int .i64 0, .int .i64 0, .int .i64 0, .slice none 0 0, .slice none 0 0, .int .i64 0, .int .u32 0, .slice none 0 0] hzr (by kernel_rfl) rfl (by simp [Value.oneCell']) ?_)
          (try rw [Exit.noGoto_ret])
          refine bodyPost_ret (v := .tuple #[.agg #[.int .i64 0, .int .i64 0, .int .i64 0, .int .i64 0, .int .i64 0, .int .i64 0, .slice none 0 0, .slice none 0 0, .int .i64 0, .int .u32 0, .slice none 0 0], .int .i64 E]) (results_row_tmp (fn := Tryd.f13) (p := 4) (u := 5) (ty := 45) rfl _ _ w.heap.size _ _ _ _ rfl (setRow_heap _ _ _ _ _ _ hzr) Tryd.underlying45 rfl (by kernel_rfl)) rfl ?_
          rw [HF.out]
          exact parse_bad E (below_setRow hbw (Nat.le_refl _) _)
      · have d1 : ((x.toNat : Int) == 69) = false := by
          show ((x.toNat : Int) == ((69 : Nat) : Int)) = false
          rw [byte_is x 69 (by omega)]
          simpa using hx
        have h69 : b[s.at_]? ≠ some 69 := by rw [hb69]; intro h; injection h with h; exact hx h
        replace HEX := hid (HEX.out w3 hb23 h69)
        clear hx hb69 h69 HN HEN
        go_wp2_with fail
        refine HEX.out.mono ?_
        rintro e w4 ⟨E, rfl, hcase⟩
        clear HEX
        go_wp2_with fail
        rcases hcase with ⟨hE, hb4, hP4⟩ | ⟨rfl, k, s', L', hR4, hs4, hP4, hk4, hat4⟩
        · refine ⟨.inl ⟨E, rfl, hE, hb4, hP4⟩, ?_⟩
          show (if intOf (.int .i64 E) = 0 then leftOf w4 m b.length else 0) < (if intOf (.int .i64 0) = 0 then leftOf wr m b.length else 0)
          rw [HLE.out, if_neg (show ¬ intOf (.int .i64 E) = 0 from hE), if_pos (show intOf (.int .i64 0) = 0 from rfl)]
          omega
        · refine ⟨.inr ⟨rfl, k, s', L', hR4, hs4, hP4, hk4⟩, ?_⟩
          show (if intOf (.int .i64 0) = 0 then leftOf w4 m b.length else 0) < (if intOf (.int .i64 0) = 0 then leftOf wr m b.length else 0)
          have := hs4.at_
          rw [HLE.out, hR4.left, if_pos (show intOf (.int .i64 0) = 0 from rfl), if_pos (show intOf (.int .i64 0) = 0 from rfl)]
          omega
    · have d0 : decide (0 < bd.length) = false := by rw [hdl]; simp; omega
      have d0' : decide ((0 : Int) < (bd.length : Int)) = false := by rw [hdl]; simp; omega
      have h69 : b[s.at_]? ≠ some 69 := by rw [List.getElem?_eq_none (by omega)]; simp
      replace HEX := hid (HEX.out w2 hb2 h69)
      clear hs2 hdl hbd HRT h69 HN HEN
      go_wp2_with fail
      refine HEX.out.mono ?_
      rintro e w4 ⟨E, rfl, hcase⟩
      clear HEX
      go_wp2_with fail
      rcases hcase with ⟨hE, hb4, hP4⟩ | ⟨rfl, k, s', L', hR4, hs4, hP4, hk4, hat4⟩
      · refine ⟨.inl ⟨E, rfl, hE, hb4, hP4⟩, ?_⟩
        show (if intOf (.int .i64 E) = 0 then leftOf w4 m b.length else 0) < (if intOf (.int .i64 0) = 0 then leftOf wr m b.length else 0)
        rw [HLE.out, if_neg (show ¬ intOf (.int .i64 E) = 0 from hE), if_pos (show intOf (.int .i64 0) = 0 from rfl)]
        omega
      · refine ⟨.inr ⟨rfl, k, s', L', hR4, hs4, hP4, hk4⟩, ?_⟩
        show (if intOf (.int .i64 0) = 0 then leftOf w4 m b.length else 0) < (if intOf (.int .i64 0) = 0 then leftOf wr m b.length else 0)
        have := hs4.at_
        rw [HLE.out, hR4.left, if_pos (show intOf (.int .i64 0) = 0 from rfl), if_pos (show intOf (.int .i64 0) = 0 from rfl)]
        omega
theorem parse_any (g : Nat) (Ab : Option Addr) (cb : Nat) (b : List UInt8) (w : World) (hB : Base w g Ab cb b) :
    Calls Tryd.prog 13 #[.pointer (some ⟨g, 0, none⟩), .slice Ab b.length cb] w (ParsePost w (parseF b)) := by
  by_cases hE : (begE b).1 = 0
  · exact parse_go g Ab cb b w hB hE
  · exact parse_beg g Ab cb b w hB hE
end Go.Proofs.YtkmhmehofipehaaDoor
/- A block that was opened is sealed as it was: in plain Lean. -/
namespace Go.Proofs.YtkmhmehofipehaaDoor
set_option linter.unusedVariables false
open Go.RowKit
theorem cut_bytesH (b : List UInt8) (p n : Nat) (h : p + n ≤ b.length) : bytesLE (fldH b p n) n = (b.drop p).take n := by
  have hl : ((b.drop p).take n).length = n := by simp; omega
  have h1 := bytesLE_val ((b.drop p).take n)
  rw [hl] at h1
  exact h1
theorem startsH_two (b : List UInt8) (h : startsH b = true) (hl : 2 ≤ b.length) : b.take 2 = [222, 92] := by
  match b, hl with
  | x :: y :: t, _ =>
    unfold startsH at h
    simp at h
    simp [h.1, h.2]
theorem seal_open {b : List UInt8} (h : (openH b).1 = 0) (hlen : b.length = 36 + (openH b).2.1.siz) :
    ∃ (K IX LE ST BN LK : Nat) (lst : Bool), (openH b).2.1 = ⟨K, IX, LE, ST, BN, lst, LK, ((openH b).2.2.1.length : Nat)⟩ ∧ (K < 256 ∧ IX < 4294967296 ∧ LE < 4294967296 ∧ ST < 4294967296 ∧ BN < 4294967296 ∧ LK < 4294967296 ∧ (openH b).2.2.1.length < 4294967296) ∧
      (openH b).2.2.1.length + 36 = b.length ∧ rightH K IX LE ST BN lst LK ((openH b).2.2.1.length : Nat) = true ∧ sealed (sealed (headHead K lst IX LE ST BN LK (openH b).2.2.1.length) ++ (openH b).2.2.1) = b ∧
      sumI (sealed (headHead K lst IX LE ST BN LK (openH b).2.2.1.length) ++ (openH b).2.2.1) = (openH b).2.2.2 := by
  obtain ⟨hsz, hg⟩ := openH_siz h
  obtain ⟨hst, h32, hsm, hok, hsd⟩ := getH_ok hg
  rw [hsz] at hlen
  have hn : ¬ b.length < 36 + fldH b 24 4 := by omega
  have hs2 : sumI (b.take (32 + fldH b 24 4)) = (fldH b (32 + fldH b 24 4) 4 : Int) := by
    unfold openH at h
    rw [if_neg (by rw [hg]; simp), if_neg hn] at h
    by_cases h3 : sumI (b.take (32 + fldH b 24 4)) ≠ (fldH b (32 + fldH b 24 4) 4 : Int)
    · rw [if_pos h3] at h; exact absurd h (by decide)
    · simpa using h3
  have hop : openH b = (0, saidH b, (b.drop 32).take (fldH b 24 4), sumI (b.take (32 + fldH b 24 4))) := by
    unfold openH
    rw [if_neg (by rw [hg]; simp), if_neg hn, if_neg (by simpa using hs2), hsd]
  rw [hop]
  simp only
  have hpl : ((b.drop 32).take (fldH b 24 4)).length = fldH b 24 4 := by simp; omega
  rw [hpl]
  unfold okH at hok
  rw [Bool.and_eq_true] at hok
  have hl3 := of_decide_eq_true hok.1
  have h3 : (if (fldH b 3 1 == 1) = true then (1 : UInt8) else 0) = UInt8.ofNat (fldH b 3 1) := by
    rcases Nat.lt_or_ge (fldH b 3 1) 1 with h1 | h1
    · rw [show fldH b 3 1 = 0 by omega]; rfl
    · rw [show fldH b 3 1 = 1 by omega]; rfl
  have one : ∀ x : Nat, x < 256 → [UInt8.ofNat x] = bytesLE x 1 := fun x hx => by simp [bytesLE, Nat.mod_eq_of_lt hx]
  have e28 : headHead (fldH b 2 1) (fldH b 3 1 == 1) (fldH b 4 4) (fldH b 8 4) (fldH b 12 4) (fldH b 16 4) (fldH b 20 4) (fldH b 24 4) = b.take 28 := by
    have e4 : headFour (fldH b 2 1) (fldH b 3 1 == 1) = b.take 4 := by
      unfold headFour
      rw [h3, show ([222, 92, UInt8.ofNat (fldH b 2 1), UInt8.ofNat (fldH b 3 1)] : List UInt8) = [222, 92] ++ [UInt8.ofNat (fldH b 2 1)] ++ [UInt8.ofNat (fldH b 3 1)] from rfl, one _ (fldH_lt b 2 1), one _ (fldH_lt b 3 1), cut_bytesH b 2 1 (by omega), cut_bytesH b 3 1 (by omega),
        show (4 : Nat) = 2 + 1 + 1 from rfl, List.take_add, List.take_add, startsH_two b hst (by omega)]
    unfold headHead sixB
    rw [e4]
    show b.take 4 ++ List.flatMap (fun x => bytesLE x 4) [fldH b 4 4, fldH b 8 4, fldH b 12 4, fldH b 16 4, fldH b 20 4, fldH b 24 4] = _
    simp only [List.flatMap_cons, List.flatMap_nil, List.append_nil]
    rw [cut_bytesH b 4 4 (by omega), cut_bytesH b 8 4 (by omega), cut_bytesH b 12 4 (by omega), cut_bytesH b 16 4 (by omega), cut_bytesH b 20 4 (by omega), cut_bytesH b 24 4 (by omega)]
    rw [show (28 : Nat) = 4 + 4 + 4 + 4 + 4 + 4 + 4 from rfl, List.take_add, List.take_add, List.take_add, List.take_add, List.take_add, List.take_add]
    simp only [List.append_assoc]
  have e32 : sealed (headHead (fldH b 2 1) (fldH b 3 1 == 1) (fldH b 4 4) (fldH b 8 4) (fldH b 12 4) (fldH b 16 4) (fldH b 20 4) (fldH b 24 4)) = b.take 32 := by
    unfold sealed
    rw [e28, hsm, Int.toNat_natCast, cut_bytesH b 28 4 (by omega), show (32 : Nat) = 28 + 4 from rfl, List.take_add]
  have eP : sealed (headHead (fldH b 2 1) (fldH b 3 1 == 1) (fldH b 4 4) (fldH b 8 4) (fldH b 12 4) (fldH b 16 4) (fldH b 20 4) (fldH b 24 4)) ++ (b.drop 32).take (fldH b 24 4) = b.take (32 + fldH b 24 4) := by
    rw [e32, List.take_add]
  refine ⟨fldH b 2 1, fldH b 4 4, fldH b 8 4, fldH b 12 4, fldH b 16 4, fldH b 20 4, fldH b 3 1 == 1, rfl, ⟨fldH_lt b 2 1, fldH_lt b 4 4, fldH_lt b 8 4, fldH_lt b 12 4, fldH_lt b 16 4, fldH_lt b 20 4, fldH_lt b 24 4⟩, by omega, hok.2, ?_, by rw [eP]⟩
  rw [eP]
  unfold sealed
  rw [hs2, Int.toNat_natCast, cut_bytesH b _ 4 (by omega), ← List.take_add, List.take_of_length_le (by omega)]
end Go.Proofs.YtkmhmehofipehaaDoor
/- A file's blocks, as they were parsed, sealed again: in plain Lean. -/
namespace Go.Proofs.YtkmhmehofipehaaDoor
set_option linter.unusedVariables false
open Go.RowKit
theorem addAll_each {i : InfoV} : ∀ (bs : List (List UInt8)) (s : FileS), (addAll i bs s).1 = 0 → ∀ b ∈ bs, (openH b).1 = 0 ∧ b.length = 36 + (openH b).2.1.siz
  | [], s, _, b, h => by simp at h
  | x :: bs, s, he, b, h => by
    unfold addAll at he
    by_cases h1 : (addE i s x).1 = 0
    · rw [if_neg (by rw [h1]; simp)] at he
      rcases List.mem_cons.1 h with rfl | h
      · obtain ⟨h2, h3, _, _⟩ := addE_ok h1
        exact ⟨h2, h3⟩
      · exact addAll_each bs _ he b h
    · rw [if_pos h1] at he
      exact absurd he h1
theorem readB_len : ∀ (bs : List (List UInt8)) (p : Nat), (readB bs p).length = bs.length
  | [], _ => rfl
  | b :: bs, p => by simp only [readB, List.length_cons, readB_len bs]
theorem readB_at : ∀ (bs : List (List UInt8)) (p k : Nat) (h : k < bs.length), (readB bs p)[k]? = some ⟨(openH bs[k]).2.1, (openH bs[k]).2.2.1, (openH bs[k]).2.2.2, p + (bs.take k).flatten.length⟩
  | [], p, k, h => by simp at h
  | b :: bs, p, 0, h => by simp [readB]
  | b :: bs, p, k + 1, h => by
    simp only [readB, List.getElem?_cons_succ, List.getElem_cons_succ]
    rw [readB_at bs (p + b.length) k (by simpa using h)]
    simp only [List.take_succ_cons, List.flatten_cons, List.length_append]
    rw [Nat.add_assoc]
theorem flatten_cut (bs : List (List UInt8)) (k : Nat) (h : k < bs.length) : bs.flatten = (bs.take k).flatten ++ (bs[k] ++ (bs.drop (k + 1)).flatten) := by
  have e0 : bs = bs.take k ++ (bs[k] :: bs.drop (k + 1)) := by rw [← List.drop_eq_getElem_cons h, List.take_append_drop]
  have e1 := congrArg List.flatten e0
  rwa [List.flatten_append, List.flatten_cons] at e1
theorem flatten_at (bs : List (List UInt8)) (X : List UInt8) (k : Nat) (h : k < bs.length) : ((bs.flatten ++ X).drop (bs.take k).flatten.length).take bs[k].length = bs[k] := by
  have e : bs.flatten ++ X = (bs.take k).flatten ++ (bs[k] ++ ((bs.drop (k + 1)).flatten ++ X)) := by
    have h1 := congrArg (fun z => z ++ X) (flatten_cut bs k h)
    simpa only [List.append_assoc] using h1
  rw [e, List.drop_left, List.take_left]
/-- where a block lies in the file that was built -/
theorem Built.block {i : InfoV} {l : List TagV} {bs : List (List UInt8)} {sum : Nat} {B : List UInt8} {s : FileS} (h : Built i l bs sum B s) {k : Nat} (hk : k < bs.length) :
    ((B.drop ((startF i l).out.length + (bs.take k).flatten.length)).take bs[k].length = bs[k]) ∧ (startF i l).out.length + (bs.take k).flatten.length + bs[k].length ≤ B.length := by
  have h1 := h.start []
  rw [List.append_nil, List.append_nil] at h1
  have h2 := flatten_at bs (tailB s sum) k hk
  rw [h1, ← List.drop_drop, List.drop_left]
  refine ⟨h2, ?_⟩
  have e := flatten_cut bs k hk
  have h3 := congrArg List.length e
  simp only [List.length_append] at h3 ⊢
  omega
/-- what Parse made of a block is sealed as the block -/
theorem Built.seal {i : InfoV} {l : List TagV} {bs : List (List UInt8)} {sum : Nat} {B : List UInt8} {s : FileS} (h : Built i l bs sum B s) {k : Nat} (hk : k < bs.length) :
    ∃ (K IX LE ST BN LK : Nat) (lst : Bool) (P : List UInt8), (FileV.built i l bs sum s).bl[k]? = some ⟨⟨K, IX, LE, ST, BN, lst, LK, (P.length : Nat)⟩, P, sumI (sealed (headHead K lst IX LE ST BN LK P.length) ++ P), (startF i l).out.length + (bs.take k).flatten.length⟩ ∧
      (K < 256 ∧ IX < 4294967296 ∧ LE < 4294967296 ∧ ST < 4294967296 ∧ BN < 4294967296 ∧ LK < 4294967296 ∧ P.length < 4294967296) ∧ P.length + 36 = bs[k].length ∧ rightH K IX LE ST BN lst LK (P.length : Nat) = true ∧ sealed (sealed (headHead K lst IX LE ST BN LK P.length) ++ P) = bs[k] := by
  have hall : (addAll i bs (startF i l)).1 = 0 := by rw [h.all]
  obtain ⟨h1, h2⟩ := addAll_each bs _ hall bs[k] (List.getElem_mem hk)
  obtain ⟨K, IX, LE, ST, BN, LK, lst, e1, e2, e3, e4, e5, e6⟩ := seal_open h1 h2
  refine ⟨K, IX, LE, ST, BN, LK, lst, _, ?_, e2, e3, e4, e5⟩
  show (readB bs (startF i l).out.length)[k]? = _
  rw [readB_at bs _ k hk, e1, e6]
end Go.Proofs.YtkmhmehofipehaaDoor
/- Are blocks few, and short? -/
namespace Go.Proofs.YtkmhmehofipehaaDoor
set_option linter.unusedVariables false
open Go.RowKit
/-- what Few says when it lets blocks through -/
def FewK (w : World) (l : List BlkV) (e : Ending) (w' : World) : Prop := ∃ b, e = .returned (.bool b) ∧ w = w' ∧ (b = true → l.length ≤ 12 ∧ ∀ x ∈ l, x.l.length ≤ 300)
set_option maxHeartbeats 1000000 in
theorem fewK_any (A : Option Addr) (c : Nat) (l : List BlkV) (w : World) (hl : SeesK w A l) (hc : l.length ≤ c ∧ c ≤ maxLen) :
    Calls Tryd.prog 8 #[.slice A l.length c] w (FewK w l) := by
  unfold maxLen at hc
  go_enter Tryd.func8, Tryd.ntmps8
  go_wp2_with fail
  go_loop [3] (fun i => ∃ k : Nat, k ≤ l.length ∧ k ≤ 20 ∧ i = .int .i64 k ∧ ∀ x ∈ l.take k, x.l.length ≤ 300) (fun i => l.length - (intOf i).toNat)
  case atStart => exact ⟨0, by omega, by omega, rfl, by simp⟩
  case round =>
    obtain ⟨k, hk, hk60, rfl, hall⟩ := hrel
    by_cases hlt : k < l.length
    · have d1 : decide ((k : Int) < (l.length : Int)) = true := decide_eq_true (by omega)
      have dkl : (k : Int) < (l.length : Int) := by omega
      by_cases hlt6 : k < 20
      · have d2 : decide ((k : Int) < 20) = true := decide_eq_true (by omega)
        obtain ⟨a, rfl, x1⟩ := hl.at hlt
        by_cases hs : 300 < l[k].l.length
        · have d3 : decide (300 < (l[k].l.length : Int)) = true := decide_eq_true (by omega)
          clear hall
          go_wp2_with fail
          go_ret
          exact ⟨false, rfl, rfl, fun h => by cases h⟩
        · have d3 : decide (300 < (l[k].l.length : Int)) = false := decide_eq_false (by omega)
          go_wp2_with fail
          refine ⟨⟨k + 1, hlt, hlt6, by go_num, fun x hx => ?_⟩, by simp [intOf]; omega⟩
          rw [List.take_succ_eq_append_getElem hlt, List.mem_append] at hx
          rcases hx with h | h
          · exact hall x h
          · rw [List.mem_singleton.1 h]; omega
      · have d2 : decide ((k : Int) < 20) = false := decide_eq_false (by omega)
        have d4 : decide ((l.length : Int) ≤ 12) = false := decide_eq_false (by omega)
        go_wp2_with fail
        go_ret
        exact ⟨_, rfl, rfl, fun h => by cases h⟩
    · obtain rfl : k = l.length := by omega
      have d1 : decide ((l.length : Int) < (l.length : Int)) = false := decide_eq_false (by omega)
      rw [List.take_length] at hall
      by_cases h5 : l.length ≤ 12
      · have d4 : decide ((l.length : Int) ≤ 12) = true := decide_eq_true (by omega)
        go_wp2_with fail
        go_ret
        exact ⟨_, rfl, rfl, fun h => ⟨h5, hall⟩⟩
      · have d4 : decide ((l.length : Int) ≤ 12) = false := decide_eq_false (by omega)
        go_wp2_with fail
        go_ret
        exact ⟨_, rfl, rfl, fun h => by cases h⟩
end Go.Proofs.YtkmhmehofipehaaDoor
/- Are tags few, and short? -/
namespace Go.Proofs.YtkmhmehofipehaaDoor
set_option linter.unusedVariables false
open Go.RowKit
/-- what Few says when it lets tags through -/
def FewT (w : World) (l : List TagV) (e : Ending) (w' : World) : Prop := ∃ b, e = .returned (.bool b) ∧ w = w' ∧ (b = true → l.length ≤ 70 ∧ ∀ x ∈ l, x.k.size ≤ 100 ∧ x.v.size ≤ 1500)
set_option maxHeartbeats 1000000 in
theorem fewT_any (A : Option Addr) (c : Nat) (l : List TagV) (w : World) (hl : SeesT w A l) (hc : l.length ≤ c ∧ c ≤ maxLen) :
    Calls Tryd.prog 7 #[.slice A l.length c] w (FewT w l) := by
  unfold maxLen at hc
  go_enter Tryd.func7, Tryd.ntmps7
  go_wp2_with fail
  go_loop [3] (fun i => ∃ k : Nat, k ≤ l.length ∧ k ≤ 100 ∧ i = .int .i64 k ∧ ∀ x ∈ l.take k, x.k.size ≤ 100 ∧ x.v.size ≤ 1500) (fun i => l.length - (intOf i).toNat)
  case atStart => exact ⟨0, by omega, by omega, rfl, by simp⟩
  case round =>
    obtain ⟨k, hk, hk60, rfl, hall⟩ := hrel
    by_cases hlt : k < l.length
    · have d1 : decide ((k : Int) < (l.length : Int)) = true := decide_eq_true (by omega)
      have dkl : (k : Int) < (l.length : Int) := by omega
      by_cases hlt6 : k < 100
      · have d2 : decide ((k : Int) < 100) = true := decide_eq_true (by omega)
        obtain ⟨a, rfl, x1, x2⟩ := hl.at hlt
        by_cases hs : 100 < l[k].k.size
        · have d3 : decide (100 < (l[k].k.size : Int)) = true := decide_eq_true (by omega)
          clear hall
          go_wp2_with fail
          go_ret
          exact ⟨false, rfl, rfl, fun h => by cases h⟩
        · have d3 : decide (100 < (l[k].k.size : Int)) = false := decide_eq_false (by omega)
          by_cases hv : 1500 < l[k].v.size
          · have d4 : decide (1500 < (l[k].v.size : Int)) = true := decide_eq_true (by omega)
            clear hall
            go_wp2_with fail
            go_ret
            exact ⟨false, rfl, rfl, fun h => by cases h⟩
          · have d4 : decide (1500 < (l[k].v.size : Int)) = false := decide_eq_false (by omega)
            go_wp2_with fail
            refine ⟨⟨k + 1, hlt, hlt6, by go_num, fun x hx => ?_⟩, by simp [intOf]; omega⟩
            rw [List.take_succ_eq_append_getElem hlt, List.mem_append] at hx
            rcases hx with h | h
            · exact hall x h
            · rw [List.mem_singleton.1 h]; omega
      · have d2 : decide ((k : Int) < 100) = false := decide_eq_false (by omega)
        have d4 : decide ((l.length : Int) ≤ 70) = false := decide_eq_false (by omega)
        go_wp2_with fail
        go_ret
        exact ⟨_, rfl, rfl, fun h => by cases h⟩
    · obtain rfl : k = l.length := by omega
      have d1 : decide ((l.length : Int) < (l.length : Int)) = false := decide_eq_false (by omega)
      rw [List.take_length] at hall
      by_cases h5 : l.length ≤ 70
      · have d4 : decide ((l.length : Int) ≤ 70) = true := decide_eq_true (by omega)
        go_wp2_with fail
        go_ret
        exact ⟨_, rfl, rfl, fun h => ⟨h5, hall⟩⟩
      · have d4 : decide ((l.length : Int) ≤ 70) = false := decide_eq_false (by omega)
        go_wp2_with fail
        go_ret
        exact ⟨_, rfl, rfl, fun h => by cases h⟩
end Go.Proofs.YtkmhmehofipehaaDoor
/- Tags compared: the reference's. -/
namespace Go.Proofs.YtkmhmehofipehaaDoor
set_option linter.unusedVariables false
open Go.RowKit
def sameTag (x y : TagV) : Bool := (x.k.toList == y.k.toList) && (x.v.toList == y.v.toList)
theorem eq_tag (x y : TagV) (w : World) :
    (Op.equalIn 10000 63 (.agg #[.string x.k, .string x.v]) (.agg #[.string y.k, .string y.v])).run Tryd.prog w = .ok (sameTag x y) w := by
  have u3 := Tryd.underlying9
  have a3 := Tryd.isAgg9
  have z3 := Tryd.sizeOf9
  have hS : Tryd.prog.underlying 63 = some (.struct (Tryd.prog.fieldsOf 63)) := by kernel_rfl
  have hp : Tryd.prog.stoodInHeld 63 = false := by kernel_rfl
  unfold sameTag
  generalize hb : (x.k.toList == y.k.toList) = b
  generalize hd : (x.v.toList == y.v.toList) = d
  rw [show (10000 : Nat) = 9999 + 1 from rfl, run_equalIn_agg w 9999 63 _ _ hS hp]
  simp only [Program.fieldsOf, Tryd.underlying63]
  cases b <;> cases d <;> go_simp
def pairs (l : List TagV) : List (ByteArray × ByteArray) := l.map fun t => (t.k, t.v)
def sameT (l m : List TagV) : Bool := decide (pairs l = pairs m)
theorem sameTag_iff (x y : TagV) : sameTag x y = true ↔ (x.k, x.v) = (y.k, y.v) := by
  unfold sameTag
  rw [list_eql, list_eql, Bool.and_eq_true, decide_eq_true_iff, decide_eq_true_iff, Prod.mk.injEq]
theorem pairs_succ (l : List TagV) (k : Nat) (h : k < l.length) : pairs (l.take (k + 1)) = pairs (l.take k) ++ [(l[k].k, l[k].v)] := by
  unfold pairs
  rw [List.take_succ_eq_append_getElem h, List.map_append]
  rfl
theorem pairs_ne {l m : List TagV} {k : Nat} (h : k < l.length) (h' : k < m.length) (hne : (l[k].k, l[k].v) ≠ (m[k].k, m[k].v)) : sameT l m = false := by
  apply decide_eq_false
  intro he
  apply hne
  have h1 : (pairs l)[k]? = (pairs m)[k]? := by rw [he]
  unfold pairs at h1
  rw [List.getElem?_map, List.getElem?_map, List.getElem?_eq_getElem h, List.getElem?_eq_getElem h'] at h1
  simpa using h1
theorem pairs_len {l m : List TagV} (h : l.length ≠ m.length) : sameT l m = false := by
  apply decide_eq_false
  intro he
  apply h
  have := congrArg List.length he
  simpa [pairs] using this
theorem pairs_inj : ∀ {l m : List TagV}, pairs l = pairs m → l = m
  | [], [], _ => rfl
  | [], _ :: _, h => by simp [pairs] at h
  | _ :: _, [], h => by simp [pairs] at h
  | ⟨a, b⟩ :: l, ⟨c, d⟩ :: m, h => by
    simp only [pairs, List.map_cons, List.cons.injEq, Prod.mk.injEq] at h
    obtain ⟨⟨rfl, rfl⟩, h⟩ := h
    rw [pairs_inj h]
theorem sameT_refl (l : List TagV) : sameT l l = true := decide_eq_true rfl
theorem sameT_eq {l m : List TagV} (h : sameT l m = true) : l = m := pairs_inj (of_decide_eq_true h)
set_option maxRecDepth 20000 in
set_option maxHeartbeats 4000000 in
theorem rsameT_any (A B : Option Addr) (c d : Nat) (l m : List TagV) (w : World) (hl : SeesT w A l) (hm : SeesT w B m) (h1 : l.length ≤ maxLen) (h2 : m.length ≤ maxLen) :
    Calls Tryd.prog 14 #[.slice A l.length c, .slice B m.length d] w fun e w' => e = .returned (.bool (sameT l m)) ∧ Below w.heap.size w w' := by
  unfold maxLen at h1 h2
  obtain ⟨R, hR⟩ : ∃ R, R = sameT l m := ⟨_, rfl⟩
  rw [← hR]
  by_cases hlen : l.length = m.length
  · have dn : ((l.length : Int) != (m.length : Int)) = false := by simp [hlen]
    have HR := hid hR
    have HLEN := hid hlen
    clear hR hlen
    go_enter Tryd.func14, Tryd.ntmps14
    go_wp2_with fail
    go_loopw [5] (fun i wr => ∃ k : Nat, k ≤ l.length ∧ i = .int .i64 (k : Int) ∧ Below w.heap.size w wr ∧ Hid (pairs (l.take k) = pairs (m.take k))) (fun i _ => l.length - (intOf i).toNat)
    case atStart => exact ⟨0, by omega, rfl, Below.refl _ _, hid rfl⟩
    case round =>
      obtain ⟨k, hk, rfl, hbr, hE⟩ := hrel
      by_cases hlt : k < l.length
      · have dk : decide ((k : Int) < (l.length : Int)) = true := decide_eq_true (by omega)
        have hltm : k < m.length := by rw [← HLEN.out]; exact hlt
        have dkl : (k : Int) < (l.length : Int) := by omega
        have dkm : (k : Int) < (m.length : Int) := by omega
        obtain ⟨a, rfl, x1, x2⟩ := (hl.below hbr).at hlt
        obtain ⟨b, rfl, y1, y2⟩ := (hm.below hbr).at hltm
        have HS1 := hid (pairs_succ l k hlt)
        have HS2 := hid (pairs_succ m k hltm)
        have HNE := hid (fun h => pairs_ne hlt hltm h)
        have hq := eq_tag l[k] m[k]
        have hqe := hid (sameTag_iff l[k] m[k])
        generalize l[k] = x at *
        generalize m[k] = y at *
        obtain ⟨xk, xv⟩ := x
        obtain ⟨yk, yv⟩ := y
        simp only at x1 x2 y1 y2 hq
        generalize sameTag ⟨xk, xv⟩ ⟨yk, yv⟩ = q at *
        clear hl hm
        cases q with
        | true =>
          have HE2 := hid (show pairs (l.take (k + 1)) = pairs (m.take (k + 1)) by rw [HS1.out, HS2.out, hE.out, hqe.out.1 rfl])
          go_wp2_with (go_quiet (fail))
          exact ⟨⟨k + 1, by omega, by go_num, ⟨hbr.os, hbr.tape, hbr.output, hbr.size, hbr.block⟩, HE2⟩, by simp [intOf]; omega⟩
        | false =>
          obtain rfl : R = false := by rw [HR.out]; exact HNE.out (fun h => by have := hqe.out.2 h; simp at this)
          clear HR HNE
          go_wp2_with (go_quiet (fail))
          go_ret
          exact ⟨rfl, ⟨hbr.os, hbr.tape, hbr.output, hbr.size, hbr.block⟩⟩
      · obtain rfl : k = l.length := by omega
        have dk : decide ((l.length : Int) < (l.length : Int)) = false := decide_eq_false (by omega)
        obtain rfl : R = true := by
          rw [HR.out]
          have := hE.out
          rw [List.take_length, HLEN.out, List.take_length] at this
          exact decide_eq_true this
        clear HR
        go_wp2_with fail
        go_ret
        exact ⟨rfl, hbr⟩
  · have dn : ((l.length : Int) != (m.length : Int)) = true := by simp; omega
    obtain rfl : R = false := by rw [hR]; exact pairs_len hlen
    clear hR
    go_enter Tryd.func14, Tryd.ntmps14
    go_wp2_with fail
    go_ret
    exact ⟨rfl, Below.refl _ _⟩
end Go.Proofs.YtkmhmehofipehaaDoor
/- The reference's fields: Bytes. -/
namespace Go.Proofs.YtkmhmehofipehaaDoor
set_option linter.unusedVariables false
open Go.RowKit
theorem uint8_info : (Tryd.prog.info? 5).map (fun i => (i.zero, i.size, i.bytes)) = some (some (.int .u8 0), 1, 1) := by kernel_rfl
theorem make_bytes (n : Nat) (hn : n ≤ 281474976710656) (w : World) : (Instr.makeSlice 32 (.int .i64 (n : Int)) (.int .i64 (n : Int))).run Tryd.prog w =
    .ok (.slice (some ⟨w.heap.size, 0, none⟩) n n) (w.alloc (.cells (madeCells #[.int .u8 0] n) 5)) := by
  obtain ⟨i, h0, h1, h2, h3⟩ := info_parts uint8_info
  have hr := run_make (P := Tryd.prog) w 32 5 i (.int .u8 0) Tryd.underlying32 h0 h1 .i64 .i64 n n (by omega) (by omega) (by rw [h3]; omega) (by omega)
  simp only [Int.toNat_natCast, h2, Nat.mul_one] at hr
  exact hr
theorem own_made (n : Nat) (hn : n ≤ 281474976710656) (w : World) : (w.alloc (.cells (madeCells #[.int .u8 0] n) 5)).ownsRow w.heap.size 5 1 (.slice (some ⟨w.heap.size, 0, none⟩) n n) n (List.replicate n (.int .u8 0)) := by
  refine ⟨by simp, .inr ⟨w.heap.size, n, _, rfl, Nat.le_refl _, heap_alloc_new _ _, Nat.le_refl _, by unfold maxLen; omega, by simp [size_madeCells], ?_⟩⟩
  rw [toList_madeCells_one, Nat.mul_one, List.take_of_length_le (by simp)]
/-- what is laid as yet -/
def laidTo (v n k : Nat) : List Value := (bytesLE v k).map byteV ++ List.replicate (n - k) (.int .u8 0)
theorem laid_set (v n k : Nat) (h : k < n) : (laidTo v n k).set k (byteV (UInt8.ofNat (v / 256 ^ k % 256))) = laidTo v n (k + 1) := by
  unfold laidTo
  rw [bytesLE_snoc, List.set_append_right _ _ (by simp [bytesLE_length])]
  simp only [List.length_map, bytesLE_length, Nat.sub_self, List.map_append, List.map_cons, List.map_nil, List.append_assoc]
  obtain ⟨m, hm⟩ : ∃ m, n - k = m + 1 := ⟨n - k - 1, by omega⟩
  rw [hm, show n - (k + 1) = m by omega, List.replicate_succ]; rfl
theorem laid_all (v n : Nat) : laidTo v n n = (bytesLE v n).map byteV := by simp [laidTo]
theorem laid_get (v n k : Nat) (h : k < n) : ∃ u, (laidTo v n k)[k]? = some u := by
  refine ⟨_, List.getElem?_eq_getElem ?_⟩
  simp [laidTo, bytesLE_length]; omega
set_option maxHeartbeats 1000000 in
theorem rbytes_any (v n : Nat) (w : World) (hv : v < 18446744073709551616) (hn : n ≤ 8) :
    Calls Tryd.prog 36 #[.int .u64 (v : Int), .int .i64 (n : Int)] w (ClonePost w (bytesLE v n)) := by
  have hmk := make_bytes n (by omega)
  have hown := own_made n (by omega) w
  have hb0 : Below w.heap.size w (w.alloc (.cells (madeCells #[.int .u8 0] n) 5)) := (Below.refl _ _).alloc (Nat.le_refl _) _
  go_enter Tryd.func36, Tryd.ntmps36
  go_wp2_with fail
  generalize hw0 : w.alloc (.cells (madeCells #[.int .u8 0] n) 5) = w0 at *
  clear hw0
  go_loopw [0, 6] (fun x i wr => ∃ k : Nat, k ≤ n ∧ i = .int .i64 k ∧ x = .int .u64 ((v / 256 ^ k : Nat) : Int) ∧ wr.ownsRow w.heap.size 5 1 (.slice (some ⟨w.heap.size, 0, none⟩) n n) n (laidTo v n k) ∧ Below w.heap.size w wr) (fun _ i _ => n - (intOf i).toNat)
  case atStart => exact ⟨0, by omega, rfl, by simp, by simpa [laidTo, bytesLE] using hown, hb0⟩
  case round =>
    obtain ⟨k, hk, rfl, rfl, ho, hb⟩ := hrel
    by_cases hlt : k < n
    · obtain ⟨u, hu⟩ := laid_get v n k hlt
      have hc := (ho.cellAt k (by omega)).trans hu
      have hf := ho.frozenAt k
      have hst := (ho.stored k (byteV (UInt8.ofNat (v / 256 ^ k % 256)))).1
      rw [laid_set v n k hlt] at hst
      have hxv : byteV (UInt8.ofNat (v / 256 ^ k % 256)) = .int .u8 (((v / 256 ^ k : Nat) : Int) % 256) := by
        rw [byteV, UInt8.toNat_ofNat', Nat.mod_eq_of_lt (by omega)]; rfl
      have hdiv : v / 256 ^ (k + 1) = v / 256 ^ k / 256 := by rw [Nat.pow_succ, Nat.div_div_eq_div_mul]
      rw [hxv] at hst
      have HD := hid hdiv
      have hdv : v / 256 ^ k ≤ v := Nat.div_le_self _ _
      clear hdiv hxv hu
      generalize v / 256 ^ k = y at hdv hst HD
      have hd : decide ((k : Int) < n) = true := by simp; omega
      go_wp2_with fail
      exact ⟨⟨k + 1, by omega, by go_num, by rw [HD.out]; rfl, hst, hb.setCell (Nat.le_refl _) _⟩, by simp [intOf]; omega⟩
    · obtain rfl : k = n := by omega
      rw [laid_all] at ho
      have hlen := bytesLE_length v k
      go_wp2_with fail
      go_ret
      refine ⟨_, rfl, some ⟨w.heap.size, 0, none⟩, k, by rw [hlen]; rfl, by rw [hlen]; exact ho, hb⟩
end Go.Proofs.YtkmhmehofipehaaDoor
