/- A file taken apart, by the program. -/
import Derived.Test.YtkmhmehofipehaaGreatDoorPz16
import Derived.Test.YtkmhmehofipehaaGreatDoorPz19
import Derived.Test.YtkmhmehofipehaaGreatDoorPz3
import Derived.WalkMore
namespace Go.Proofs.YtkmhmehofipehaaGreatDoor
set_option linter.unusedVariables false
open Go.RowKit
/-- a file that was read, in memory -/
def ParsePost (w : World) (r : Int × FileV) (e : Ending) (w' : World) : Prop :=
  ∃ (At : Option Addr) (ct : Nat) (Ak : Option Addr) (ck : Nat) (Ax : Option Addr) (cx : Nat) (L : List BlkM),
    e = .returned (.tuple #[.agg #[.int .i64 r.2.i.k, .int .i64 r.2.i.ch, .int .i64 r.2.i.bi, .int .i64 r.2.i.ra, .int .i64 r.2.i.bl, .int .i64 r.2.i.sh, .slice At r.2.l.length ct, .slice Ak L.length ck, .int .i64 r.2.cnt, .int .u32 r.2.sum, .slice Ax r.2.pl.length cx], .int .i64 r.1]) ∧
    SeesT w' At r.2.l ∧ r.2.l.length ≤ ct ∧ Sees w' Ak (flatM L) ∧ r.2.bl = L.map BlkM.plain ∧ (∀ x ∈ L, SeesB w' x.A x.p ∧ x.p.length ≤ x.c ∧ x.c ≤ maxLen) ∧ L.length ≤ ck ∧ ck ≤ maxLen ∧
    SeesI w' Ax r.2.pl ∧ r.2.pl.length ≤ cx ∧ cx ≤ maxLen ∧ Below w.heap.size w w'
theorem parse_bad {w w' : World} (E : Int) (hb : Below w.heap.size w w') : ParsePost w (E, FileV.zero) (.returned (.tuple #[.agg #[.int .i64 0, .int .i64 0, .int .i64 0, .int .i64 0, .int .i64 0, .int .i64 0, .slice none 0 0, .slice none 0 0, .int .i64 0, .int .u32 0, .slice none 0 0], .int .i64 E])) w' :=
  ⟨none, 0, none, 0, none, 0, [], rfl, (fun i h => by simp [FileV.zero] at h), Nat.le_refl _, Sees.nil _ _, rfl, (fun x hx => by simp at hx), Nat.le_refl _, Nat.zero_le _, Sees.nil _ _, Nat.le_refl _, Nat.zero_le _, hb⟩
theorem infoOf_right {b : List UInt8} (h : (getI b).1 = 0) : (infoOf b).right = true := by
  obtain ⟨k, ch, bi, ra, bl, sh, h1, h2, _⟩ := getI_good b h
  unfold infoOf InfoV.right
  rw [h1]
  exact h2
/-- how much is not read yet, as the reader has it in memory -/
def leftOf (w : World) (m n : Nat) : Nat := n + 1 - (match w.cell? ⟨m, 12, none⟩ with | some v => (intOf v).toNat | none => 0)
theorem leftOf_is {w : World} {m n p : Nat} (h : w.cell? ⟨m, 12, none⟩ = some (.int .i64 (p : Int))) : leftOf w m n = n + 1 - p := by
  unfold leftOf
  rw [h]
  rfl
theorem Rdr.left {w0 w1 w : World} {m g : Nat} {i : InfoV} {Ab : Option Addr} {cb : Nat} {b : List UInt8} {At : Option Addr} {nt ct : Nat} {s : PS} {L : List BlkM} (h : Rdr w0 w1 w m g i Ab cb b At nt ct s L) (n : Nat) : leftOf w m n = n + 1 - s.at_ := by
  obtain ⟨Ap, cp, Ak, ck, hm, _⟩ := h
  exact leftOf_is (by rw [cell_of_row _ _ _ _ _ _ hm]; rfl)
theorem Rdr.rest {w0 w1 w : World} {m g : Nat} {i : InfoV} {Ab : Option Addr} {cb : Nat} {b : List UInt8} {At : Option Addr} {nt ct : Nat} {s : PS} {L : List BlkM} (h : Rdr w0 w1 w m g i Ab cb b At nt ct s L) (hB : Base w0 g Ab cb b) (hs : s.ok b) :
    Calls Tryz.prog 13 #[.pointer (some ⟨m, 0, none⟩)] w (RestPost w (b.drop s.at_)) := by
  obtain ⟨Ap, cp, Ak, ck, hm, _, _, _, _, hw, _⟩ := h
  exact rest_any m _ 56 Ab cb s.at_ b w hm rfl rfl (hB.sees.below hw) hB.cap.1 hB.cap.2 hs.at_
theorem Rdr.below {w0 w1 w w' : World} {m g : Nat} {i : InfoV} {Ab : Option Addr} {cb : Nat} {b : List UInt8} {At : Option Addr} {nt ct : Nat} {s : PS} {L : List BlkM} (h : Rdr w0 w1 w m g i Ab cb b At nt ct s L) (hb : Below w.heap.size w w') : Rdr w0 w1 w' m g i Ab cb b At nt ct s L := by
  obtain ⟨Ap, cp, Ak, ck, hm, hp, hk, hpay, hbl, hw, hbut⟩ := h
  exact ⟨Ap, cp, Ak, ck, (hb.block m (Array.getElem?_eq_some_iff.1 hm).1).trans hm, own_keepF hp hb, own_keepF hk hb, hpay.below hb, hbl, hw.trans (hb.mono hw.size), hbut.trans (But.of_below (R := fun _ => False) hb) (fun n h => h.elim)⟩
theorem Rdr.start {w0 w1 : World} {m g : Nat} {i : InfoV} {Ab : Option Addr} {cb : Nat} {b : List UInt8} {At : Option Addr} {nt ct n : Nat} (hm : w1.heap[m]? = some (.cells (RdCells g i none 0 0 0 false Ab b.length cb (19 + n) i At nt ct none 0 0 0 0 none 0 0) 56 (0, 0))) (hw : Below w0.heap.size w0 w1) :
    Rdr w0 w1 w1 m g i Ab cb b At nt ct (begP n) [] :=
  ⟨none, 0, none, 0, hm, own_nil _ _ _ _, own_nil _ _ _ _, (fun x hx => by simp at hx), rfl, hw, But.refl _ _⟩
theorem Rdr.bl {w0 w1 w : World} {m g : Nat} {i : InfoV} {Ab : Option Addr} {cb : Nat} {b : List UInt8} {At : Option Addr} {nt ct : Nat} {s : PS} {L : List BlkM} (h : Rdr w0 w1 w m g i Ab cb b At nt ct s L) : s.bl = L.map BlkM.plain := by
  obtain ⟨Ap, cp, Ak, ck, hm, hp, hk, hpay, hbl, hw, hbut⟩ := h
  exact hbl
theorem zeroF_is (j : Nat) (v : Value) (h : (#[.int .i64 0, .int .i64 0, .int .i64 0, .int .i64 0, .int .i64 0, .int .i64 0, .slice none 0 0, .slice none 0 0, .int .i64 0, .int .u32 0, .slice none 0 0] : Array Value)[j]? = some v) : v = .int .i64 0 ∨ v = .slice none 0 0 ∨ v = .int .u32 0 := by
  have hk : j < 11 := (Array.getElem?_eq_some_iff.1 h).1
  obtain rfl | rfl | rfl | rfl | rfl | rfl | rfl | rfl | rfl | rfl | rfl : j = 0 ∨ j = 1 ∨ j = 2 ∨ j = 3 ∨ j = 4 ∨ j = 5 ∨ j = 6 ∨ j = 7 ∨ j = 8 ∨ j = 9 ∨ j = 10 := by omega
  all_goals (simp at h; subst h; simp)
theorem zeroF_nob (j : Nat) (z : Int) : (#[.int .i64 0, .int .i64 0, .int .i64 0, .int .i64 0, .int .i64 0, .int .i64 0, .slice none 0 0, .slice none 0 0, .int .i64 0, .int .u32 0, .slice none 0 0] : Array Value)[j]? ≠ some (.int .u8 z) := by
  intro h
  have h1 := zeroF_is j _ h
  simp at h1
theorem SeesB.butNob {w w' : World} {A : Option Addr} {l : List UInt8} {q : Nat} {cs : Array Value} {t : TypeId} {fr : Nat × Nat} (h : SeesB w A l) (hb : But (Only q) w w') (hq : w.heap[q]? = some (.cells cs t fr)) (hcs : ∀ (j : Nat) (z : Int), cs[j]? ≠ some (.int .u8 z)) : SeesB w' A l := by
  intro i v hv
  obtain ⟨a, ha, hc⟩ := h i v hv
  refine ⟨a, ha, (World.cell?_of_block (w := w) (hb.block _ (block_lt_of_cell hc) ?_)).trans hc⟩
  intro hxm
  have hxm2 : (a.add i).block = q := hxm
  rw [List.getElem?_map] at hv
  obtain ⟨x, _, rfl⟩ := Option.map_eq_some_iff.1 hv
  generalize a.add i = y at *
  obtain ⟨xb, xo, xi⟩ := y
  simp only at hxm2
  subst hxm2
  simp only [World.cell?, hq] at hc
  cases xi with
  | none => exact hcs _ _ hc
  | some y => simp at hc
theorem SeesT.butZ {w w' : World} {A : Option Addr} {l : List TagV} {q : Nat} {t : TypeId} {fr : Nat × Nat} (h : SeesT w A l) (hb : But (Only q) w w') (hq : w.heap[q]? = some (.cells #[.int .i64 0, .int .i64 0, .int .i64 0, .int .i64 0, .int .i64 0, .int .i64 0, .slice none 0 0, .slice none 0 0, .int .i64 0, .int .u32 0, .slice none 0 0] t fr)) : SeesT w' A l := by
  intro k hk
  obtain ⟨a, ha, h0, h1⟩ := h k hk
  have key : ∀ (x : Addr) (s : ByteArray), w.cell? x = some (.string s) → w'.cell? x = some (.string s) := by
    intro x s hx
    refine (World.cell?_of_block (w := w) (hb.block _ (block_lt_of_cell hx) ?_)).trans hx
    intro hxm
    have hxm2 : x.block = q := hxm
    obtain ⟨xb, xo, xi⟩ := x
    simp only at hxm2
    subst hxm2
    simp only [World.cell?, hq] at hx
    cases xi with
    | none => have h3 := zeroF_is _ _ hx; simp at h3
    | some y => simp at hx
  exact ⟨a, ha, key _ _ h0, key _ _ h1⟩
theorem Rdr.lt {w0 w1 w : World} {m g : Nat} {i : InfoV} {Ab : Option Addr} {cb : Nat} {b : List UInt8} {At : Option Addr} {nt ct : Nat} {s : PS} {L : List BlkM} (h : Rdr w0 w1 w m g i Ab cb b At nt ct s L) : Below w0.heap.size w0 w := by
  obtain ⟨Ap, cp, Ak, ck, hm, hp, hk, hpay, hbl, hw, hbut⟩ := h
  exact hw
set_option maxRecDepth 20000 in
set_option maxHeartbeats 8000000 in
theorem parse_beg (g : Nat) (Ab : Option Addr) (cb : Nat) (b : List UInt8) (w : World) (hB0 : Base w g Ab cb b) (hE : (begE b).1 ≠ 0) :
    Calls Tryz.prog 5 #[.pointer (some ⟨g, 0, none⟩), .slice Ab b.length cb] w (ParsePost w (parseF b)) := by
  have hR : parseF b = ((begE b).1, FileV.zero) := by
    unfold begE at hE ⊢
    unfold parseF
    by_cases h1 : (getI b).1 ≠ 0
    · rw [if_pos h1, if_pos h1]
    · rw [if_neg h1] at hE
      rw [if_neg h1, if_pos hE, if_neg h1]
  obtain ⟨E, hEq⟩ : ∃ E, E = (begE b).1 := ⟨_, rfl⟩
  rw [← hEq] at hE hR
  have dE : (E == 0) = false := by simpa using hE
  have dE1 : (E != 0) = true := by simpa using hE
  have dE2 : decide (E = 0) = false := decide_eq_false hE
  have HEQ := hid hEq.symm
  clear hEq hE
  have hz0 := heap_alloc_new w (.cells #[.int .i64 0, .int .i64 0, .int .i64 0, .int .i64 0, .int .i64 0, .int .i64 0, .slice none 0 0, .slice none 0 0, .int .i64 0, .int .u32 0, .slice none 0 0] 35)
  have hbz : Below w.heap.size w (w.alloc (.cells #[.int .i64 0, .int .i64 0, .int .i64 0, .int .i64 0, .int .i64 0, .int .i64 0, .slice none 0 0, .slice none 0 0, .int .i64 0, .int .u32 0, .slice none 0 0] 35)) := (Below.refl _ w).alloc (Nat.le_refl _) _
  have hsz : (w.alloc (.cells #[.int .i64 0, .int .i64 0, .int .i64 0, .int .i64 0, .int .i64 0, .int .i64 0, .slice none 0 0, .slice none 0 0, .int .i64 0, .int .u32 0, .slice none 0 0] 35)).heap.size = w.heap.size + 1 := by simp
  have hB : Base (w.alloc (.cells #[.int .i64 0, .int .i64 0, .int .i64 0, .int .i64 0, .int .i64 0, .int .i64 0, .slice none 0 0, .slice none 0 0, .int .i64 0, .int .u32 0, .slice none 0 0] 35)) g Ab cb b := ⟨hB0.tab.keep hbz hB0.tab.lt, hB0.sees.below hbz, hB0.cap, hB0.tabs.below hbz, hB0.len⟩
  have HR := hid hR
  go_enter Tryz.func5, Tryz.ntmps5
  clear hR
  go_wp2_with fail
  go_step3
  go_wp2_with fail
  generalize w.alloc (.cells #[.int .i64 0, .int .i64 0, .int .i64 0, .int .i64 0, .int .i64 0, .int .i64 0, .slice none 0 0, .slice none 0 0, .int .i64 0, .int .u32 0, .slice none 0 0] 35) = wz at *
  have hm0 := heap_alloc_new wz (.cells #[.pointer (some ⟨g, 0, none⟩), .int .i64 0, .int .i64 0, .int .i64 0, .int .i64 0, .int .i64 0, .int .i64 0, .slice none 0 0, .slice none 0 0, .int .i64 0, .bool false, .slice Ab b.length cb, .int .i64 0, .int .i64 0, .int .i64 0, .int .i64 0, .int .i64 0, .int .i64 0, .int .i64 0, .slice none 0 0, .slice none 0 0, .int .i64 0, .int .u32 0, .slice none 0 0] 56)
  have hbr : Below wz.heap.size wz (wz.alloc (.cells #[.pointer (some ⟨g, 0, none⟩), .int .i64 0, .int .i64 0, .int .i64 0, .int .i64 0, .int .i64 0, .int .i64 0, .slice none 0 0, .slice none 0 0, .int .i64 0, .bool false, .slice Ab b.length cb, .int .i64 0, .int .i64 0, .int .i64 0, .int .i64 0, .int .i64 0, .int .i64 0, .int .i64 0, .slice none 0 0, .slice none 0 0, .int .i64 0, .int .u32 0, .slice none 0 0] 56)) := (Below.refl _ wz).alloc (Nat.le_refl _) _
  rw [hsz] at hm0
  have hmle : wz.heap.size ≤ w.heap.size + 1 := by omega
  have hzlt : w.heap.size < wz.heap.size := by omega
  generalize wz.alloc (.cells #[.pointer (some ⟨g, 0, none⟩), .int .i64 0, .int .i64 0, .int .i64 0, .int .i64 0, .int .i64 0, .int .i64 0, .slice none 0 0, .slice none 0 0, .int .i64 0, .bool false, .slice Ab b.length cb, .int .i64 0, .int .i64 0, .int .i64 0, .int .i64 0, .int .i64 0, .int .i64 0, .int .i64 0, .slice none 0 0, .slice none 0 0, .int .i64 0, .int .u32 0, .slice none 0 0] 56) = W at *
  generalize w.heap.size + 1 = m at *
  clear hsz hB0
  refine (begin_any m g b Ab cb wz W hbr hm0 hmle hB).mono ?_
  rintro e w1 ⟨rfl, hw1, hok⟩
  clear hbr hm0
  have hzr := (hw1.block w.heap.size hzlt).trans hz0
  have hbw := hbz.trans (hw1.mono hbz.size)
  rw [HEQ.out]
  clear hok hw1 hz0 hbz HEQ hB hmle hzlt
  go_wp2_with fail
  go_step3
  go_wp2_with fail
  go_loop [7] (fun q => q = .int .i64 E) (fun _ => 0)
  case atStart => exact rfl
  case round =>
    obtain rfl := hrel
    go_wp2_with first | (refine wpList_build rfl 35 _ rfl (.agg #[.int .i64 0, .int .i64 0, .int .i64 0, .int .i64 0, .int .i64 0, .int .i64 0, .slice none 0 0, .slice none 0 0, .int .i64 0, .int .u32 0, .slice none 0 0]) (by kernel_rfl) ?_) | (refine wpList_store_row rfl 35 (.tmp 4) (.tmp 42) rfl rfl w.heap.size rfl #[.int .i64 0, .int .i64 0, .int .i64 0, .int .i64 0, .int .i64 0, .int .i64 0, .slice none 0 0, .slice none 0 0, .int .i64 0, .int .u32 0, .slice none 0 0] rfl 35 #[.int .i64 0, .int .i64 0, .int .i64 0, .int .i64 0, .int .i64 0, .int .i64 0, .slice none 0 0, .slice none 0 0, .int .i64 0, .int .u32 0, .slice none 0 0] hzr (by kernel_rfl) rfl (by simp [Value.oneCell']) ?_)
    (try rw [Exit.noGoto_ret])
    refine bodyPost_ret (v := .tuple #[.agg #[.int .i64 0, .int .i64 0, .int .i64 0, .int .i64 0, .int .i64 0, .int .i64 0, .slice none 0 0, .slice none 0 0, .int .i64 0, .int .u32 0, .slice none 0 0], .int .i64 E]) (results_row_tmp (fn := Tryz.f5) (p := 4) (u := 5) (ty := 35) rfl _ _ w.heap.size _ _ _ _ rfl (setRow_heap _ _ _ _ _ _ hzr) Tryz.underlying35 rfl (by kernel_rfl)) rfl ?_
    rw [HR.out]
    exact parse_bad E (below_setRow hbw (Nat.le_refl _) _)
set_option maxRecDepth 20000 in
set_option maxHeartbeats 8000000 in
theorem parse_go (g : Nat) (Ab : Option Addr) (cb : Nat) (b : List UInt8) (w : World) (hB0 : Base w g Ab cb b) (hE : (begE b).1 = 0) :
    Calls Tryz.prog 5 #[.pointer (some ⟨g, 0, none⟩), .slice Ab b.length cb] w (ParsePost w (parseF b)) := by
  have hI : (getI b).1 = 0 := by
    unfold begE at hE
    by_cases h1 : (getI b).1 ≠ 0
    · rw [if_pos h1] at hE; exact hE
    · simpa using h1
  have hG : begE b = getG (b.drop 19) := by unfold begE; rw [if_neg (by rw [hI]; simp)]
  rw [hG] at hE
  have hbi := (InfoV.range (infoOf_right hI)).2.2.1
  have hl19 := getI_long hI
  have hgr := (getG_range (b.drop 19)).1
  rw [List.length_drop] at hgr
  have hR : parseF b = finP (infoOf b) (getG (b.drop 19)).2.2 b (loopP (infoOf b) b (b.length + 1) (begP (getG (b.drop 19)).2.1)) := by
    unfold parseF
    rw [if_neg (by rw [hI]; simp), if_neg (by rw [hE]; simp)]
  obtain ⟨⟨E, nr, l⟩, hr⟩ : ∃ r, getG (b.drop 19) = r := ⟨_, rfl⟩
  rw [hr] at hG hE hgr hR
  simp only at hE hgr hR
  subst hE
  have hso : (begP nr).ok b := begP_ok (by omega)
  have hfu : b.length - (begP nr).at_ < b.length + 1 := by omega
  have HG := hid hG
  generalize hib : infoOf b = i at *
  have HIB := hid hib
  clear hib
  obtain ⟨P, hP⟩ : ∃ P, P = parseF b := ⟨_, rfl⟩
  rw [← hP] at hR ⊢
  clear hP hI hG hr hgr hl19
  have hz0 := heap_alloc_new w (.cells #[.int .i64 0, .int .i64 0, .int .i64 0, .int .i64 0, .int .i64 0, .int .i64 0, .slice none 0 0, .slice none 0 0, .int .i64 0, .int .u32 0, .slice none 0 0] 35)
  have hbz : Below w.heap.size w (w.alloc (.cells #[.int .i64 0, .int .i64 0, .int .i64 0, .int .i64 0, .int .i64 0, .int .i64 0, .slice none 0 0, .slice none 0 0, .int .i64 0, .int .u32 0, .slice none 0 0] 35)) := (Below.refl _ w).alloc (Nat.le_refl _) _
  have hsz : (w.alloc (.cells #[.int .i64 0, .int .i64 0, .int .i64 0, .int .i64 0, .int .i64 0, .int .i64 0, .slice none 0 0, .slice none 0 0, .int .i64 0, .int .u32 0, .slice none 0 0] 35)).heap.size = w.heap.size + 1 := by simp
  have hB : Base (w.alloc (.cells #[.int .i64 0, .int .i64 0, .int .i64 0, .int .i64 0, .int .i64 0, .int .i64 0, .slice none 0 0, .slice none 0 0, .int .i64 0, .int .u32 0, .slice none 0 0] 35)) g Ab cb b := ⟨hB0.tab.keep hbz hB0.tab.lt, hB0.sees.below hbz, hB0.cap, hB0.tabs.below hbz, hB0.len⟩
  have HR := hid hR
  go_enter Tryz.func5, Tryz.ntmps5
  clear hR
  go_wp2_with fail
  go_step3
  go_wp2_with fail
  generalize w.alloc (.cells #[.int .i64 0, .int .i64 0, .int .i64 0, .int .i64 0, .int .i64 0, .int .i64 0, .slice none 0 0, .slice none 0 0, .int .i64 0, .int .u32 0, .slice none 0 0] 35) = wz at *
  have hm0 := heap_alloc_new wz (.cells #[.pointer (some ⟨g, 0, none⟩), .int .i64 0, .int .i64 0, .int .i64 0, .int .i64 0, .int .i64 0, .int .i64 0, .slice none 0 0, .slice none 0 0, .int .i64 0, .bool false, .slice Ab b.length cb, .int .i64 0, .int .i64 0, .int .i64 0, .int .i64 0, .int .i64 0, .int .i64 0, .int .i64 0, .slice none 0 0, .slice none 0 0, .int .i64 0, .int .u32 0, .slice none 0 0] 56)
  have hbr : Below wz.heap.size wz (wz.alloc (.cells #[.pointer (some ⟨g, 0, none⟩), .int .i64 0, .int .i64 0, .int .i64 0, .int .i64 0, .int .i64 0, .int .i64 0, .slice none 0 0, .slice none 0 0, .int .i64 0, .bool false, .slice Ab b.length cb, .int .i64 0, .int .i64 0, .int .i64 0, .int .i64 0, .int .i64 0, .int .i64 0, .int .i64 0, .slice none 0 0, .slice none 0 0, .int .i64 0, .int .u32 0, .slice none 0 0] 56)) := (Below.refl _ wz).alloc (Nat.le_refl _) _
  rw [hsz] at hm0
  have hmle : wz.heap.size ≤ w.heap.size + 1 := by omega
  have hzlt : w.heap.size < wz.heap.size := by omega
  generalize wz.alloc (.cells #[.pointer (some ⟨g, 0, none⟩), .int .i64 0, .int .i64 0, .int .i64 0, .int .i64 0, .int .i64 0, .int .i64 0, .slice none 0 0, .slice none 0 0, .int .i64 0, .bool false, .slice Ab b.length cb, .int .i64 0, .int .i64 0, .int .i64 0, .int .i64 0, .int .i64 0, .int .i64 0, .int .i64 0, .slice none 0 0, .slice none 0 0, .int .i64 0, .int .u32 0, .slice none 0 0] 56) = W at *
  generalize w.heap.size + 1 = m at *
  clear hsz hB0
  refine (begin_any m g b Ab cb wz W hbr hm0 hmle hB).mono ?_
  rintro e w1 ⟨rfl, hw1, hok⟩
  clear hbr hm0
  rw [HG.out] at hok ⊢
  rw [HIB.out] at hok
  obtain ⟨At, ct, hrow, hst, hct⟩ := hok rfl
  simp only at hrow hst hct
  have hRs := Rdr.start (n := nr) hrow hw1
  have hm1 : m < w1.heap.size := (Array.getElem?_eq_some_iff.1 hrow).1
  have hw01 := hw1.size
  have HROW := hid hrow
  clear hok hrow HG
  go_wp2_with fail
  go_step3
  go_wp2_with fail
  go_loopw [7] (fun q wr => (∃ E, q = .int .i64 E ∧ E ≠ 0 ∧ Below wz.heap.size wz wr ∧ Hid (P = (E, FileV.zero))) ∨ (q = .int .i64 0 ∧ ∃ (n : Nat) (s : PS) (L : List BlkM), Rdr wz w1 wr m g i Ab cb b At l.length ct s L ∧ s.ok b ∧ Hid (P = finP i l b (loopP i b n s)) ∧ b.length - s.at_ < n)) (fun q wr => if intOf q = 0 then leftOf wr m b.length else 0)
  case atStart => exact .inr ⟨rfl, b.length + 1, begP nr, [], hRs, hso, HR, hfu⟩
  case round =>
    clear hRs hso hfu HR
    rcases hrel with ⟨E, rfl, hE, hbr, HE⟩ | ⟨rfl, n, s, L, hR, hs, HN, hn⟩
    · have dE : (E == 0) = false := by simpa using hE
      have dE1 : (E != 0) = true := by simpa using hE
      have dE2 : decide (E = 0) = false := decide_eq_false hE
      have hzr := (hbr.block w.heap.size hzlt).trans hz0
      have hbw := hbz.trans (hbr.mono hbz.size)
      clear hE hbr hz0 hbz hw1 hst hB hmle hzlt hm1 hw01
      go_wp2_with first | (refine wpList_build rfl 35 _ rfl (.agg #[.int .i64 0, .int .i64 0, .int .i64 0, .int .i64 0, .int .i64 0, .int .i64 0, .slice none 0 0, .slice none 0 0, .int .i64 0, .int .u32 0, .slice none 0 0]) (by kernel_rfl) ?_) | (refine wpList_store_row rfl 35 (.tmp 4) (.tmp 42) rfl rfl w.heap.size rfl #[.int .i64 0, .int .i64 0, .int .i64 0, .int .i64 0, .int .i64 0, .int .i64 0, .slice none 0 0, .slice none 0 0, .int .i64 0, .int .u32 0, .slice none 0 0] rfl 35 #[.int .i64 0, .int .i64 0, .int .i64 0, .int .i64 0, .int .i64 0, .int .i64 0, .slice none 0 0, .slice none 0 0, .int .i64 0, .int .u32 0, .slice none 0 0] hzr (by kernel_rfl) rfl (by simp [Value.oneCell']) ?_)
      (try rw [Exit.noGoto_ret])
      refine bodyPost_ret (v := .tuple #[.agg #[.int .i64 0, .int .i64 0, .int .i64 0, .int .i64 0, .int .i64 0, .int .i64 0, .slice none 0 0, .slice none 0 0, .int .i64 0, .int .u32 0, .slice none 0 0], .int .i64 E]) (results_row_tmp (fn := Tryz.f5) (p := 4) (u := 5) (ty := 35) rfl _ _ w.heap.size _ _ _ _ rfl (setRow_heap _ _ _ _ _ _ hzr) Tryz.underlying35 rfl (by kernel_rfl)) rfl ?_
      rw [HE.out]
      exact parse_bad E (below_setRow hbw (Nat.le_refl _) _)
    have hRR := hid hR
    have hdl : (b.drop s.at_).length = b.length - s.at_ := List.length_drop
    have hsat := hs.at_
    have HRT := hid (fun W (hb : Below wr.heap.size wr W) => (hR.below hb).rest hB hs)
    have HBL := hid (fun W (hb : Below wr.heap.size wr W) => block_any m g i Ab cb b At l.length ct s L wz w1 W (hR.below hb) hs hB hmle hbi hw01)
    have HEN := hid (fun W (hb : Below wr.heap.size wr W) => end_any m g i Ab cb b At l.length ct s L wz w1 W (hR.below hb) hs hB hmle hw01)
    obtain ⟨n, rfl⟩ : ∃ k, n = k + 1 := ⟨n - 1, by omega⟩
    have hEX : ∀ W, Below wr.heap.size wr W → b[s.at_]? ≠ some 69 → Calls Tryz.prog 14 #[.pointer (some ⟨m, 0, none⟩)] W fun e w' => ∃ E, e = .returned (.int .i64 E) ∧
        ((E ≠ 0 ∧ Below wz.heap.size wz w' ∧ Hid (P = (E, FileV.zero))) ∨ (E = 0 ∧ ∃ (k : Nat) (s' : PS) (L' : List BlkM), Rdr wz w1 w' m g i Ab cb b At l.length ct s' L' ∧ s'.ok b ∧ Hid (P = finP i l b (loopP i b k s')) ∧ b.length - s'.at_ < k ∧ s.at_ < s'.at_)) := by
      intro W hbW h69
      refine (HBL.out W hbW).mono ?_
      rintro e w' ⟨rfl, hbw', hnx⟩
      refine ⟨_, rfl, ?_⟩
      have hP := HN.out
      rw [loopP, if_neg h69] at hP
      by_cases hz : blkE i b s = 0
      · rw [if_neg (by rw [hz]; simp)] at hP
        obtain ⟨x, hx⟩ := hnx hz
        have h1 : s.at_ + 36 ≤ (s.next i (openH (b.drop s.at_))).at_ := by show s.at_ + 36 ≤ s.at_ + (36 + _); omega
        have h2 := (hs.next hz).at_
        exact .inr ⟨hz, n, _, _, hx, hs.next hz, hP, by omega, by omega⟩
      · rw [if_pos hz] at hP
        refine .inl ⟨hz, hbw', ?_⟩
        rw [hP]
        unfold finP
        rw [if_pos hz]
        rfl
    have HEX := hid hEX
    have hle0 := hR.left b.length
    have HLE := hid hle0
    clear hEX HBL hle0
    have hbr := hR.lt
    generalize hbd : b.drop s.at_ = bd at HRT HEN
    rw [hbd] at hdl
    clear hR hw1
    go_wp2_with fail
    refine (HRT.out wr (Below.refl _ _)).mono ?_
    rintro e w2 ⟨A2, c2, rfl, hs2, hc2, hcm2, hb2⟩
    by_cases hpos : s.at_ < b.length
    · have d0 : decide (0 < bd.length) = true := by rw [hdl]; simp; omega
      have d0' : decide ((0 : Int) < (bd.length : Int)) = true := by rw [hdl]; simp; omega
      have h0 : (0 : Nat) < bd.length := by omega
      have h0i : (0 : Int) < (bd.length : Int) := by omega
      have hb69 : b[s.at_]? = some bd[0] := by
        subst hbd
        rw [List.getElem_drop, List.getElem?_eq_getElem (by omega)]
        rfl
      clear hs2 hdl hbd
      go_wp2_with fail
      refine (HRT.out w2 hb2).mono ?_
      rintro e w3 ⟨A3, c3, rfl, hs3, hc3, hcm3, hb3⟩
      have hb23 := hb2.trans (hb3.mono hb2.size)
      obtain ⟨a3, rfl, ca3⟩ := hs3.at h0
      have ca : w3.cell? a3 = some (.int .u8 (bd[0].toNat : Int)) := ca3
      clear hs3 ca3 hb2 hb3 HRT
      generalize bd[0] = x at *
      by_cases hx : x = 69
      · have d1 : ((x.toNat : Int) == 69) = true := by rw [hx]; rfl
        have HP := hid (show P = finP i l b (0, s) by rw [HN.out, loopP, if_pos (by rw [hb69, hx])])
        clear hx hb69 HEX HN
        go_wp2_with fail
        refine (HEN.out w3 hb23).mono ?_
        rintro e w4 ⟨rfl, hw4, hfin⟩
        clear HEN
        obtain ⟨E, hE⟩ : ∃ E, E = tailE b s := ⟨_, rfl⟩
        rw [← hE] at hfin ⊢
        have HTE := hid hE
        clear hE
        have hzr := (hw4.block w.heap.size hzlt).trans hz0
        have hbw := hbz.trans (hw4.mono hbz.size)
        by_cases hz : E = 0
        · subst hz
          obtain ⟨Ap, cp, Ak, ck, Ax, cx, Ab', cb', p', hm4, hk4, hpay4, hx4, hcx, hcmx, hlk, hckm, hB4, hAk, hAx⟩ := hfin rfl
          have HFIN : ParsePost w P (.returned (.tuple #[.agg #[.int .i64 i.k, .int .i64 i.ch, .int .i64 i.bi, .int .i64 i.ra, .int .i64 i.bl, .int .i64 i.sh, .slice At l.length ct, .slice Ak L.length ck, .int .i64 (getT (b.drop s.at_)).2.2.1, .int .u32 (getT (b.drop s.at_)).2.2.2.1, .slice Ax (getT (b.drop s.at_)).2.2.2.2.length cx], .int .i64 0])) (w4.setRow w.heap.size #[.int .i64 i.k, .int .i64 i.ch, .int .i64 i.bi, .int .i64 i.ra, .int .i64 i.bl, .int .i64 i.sh, .slice At l.length ct, .slice Ak L.length ck, .int .i64 (getT (b.drop s.at_)).2.2.1, .int .u32 (getT (b.drop s.at_)).2.2.2.1, .slice Ax (getT (b.drop s.at_)).2.2.2.2.length cx]) := by
            rw [HP.out]
            unfold finP
            rw [if_neg (by simp), if_neg (by rw [← HTE.out]; simp)]
            have hbl := hRR.out.bl
            have hsT := (hst.butRd hB4 (fun n h => h) HROW.out).butZ (but_row w.heap.size #[.int .i64 i.k, .int .i64 i.ch, .int .i64 i.bi, .int .i64 i.ra, .int .i64 i.bl, .int .i64 i.sh, .slice At l.length ct, .slice Ak L.length ck, .int .i64 (getT (b.drop s.at_)).2.2.1, .int .u32 (getT (b.drop s.at_)).2.2.2.1, .slice Ax (getT (b.drop s.at_)).2.2.2.2.length cx]) hzr
            refine ⟨At, ct, Ak, ck, Ax, cx, L, rfl, hsT, hct, ?_, hbl, fun x hx => ?_, hlk, hckm, ?_, hcx, hcmx, below_setRow hbw (Nat.le_refl _) _⟩
            · exact Sees.setRowFar hk4 w.heap.size _ (fun a ha => by have := hAk a ha; omega)
            · obtain ⟨q1, q2, q3⟩ := hpay4 x hx
              exact ⟨q1.butNob (but_row w.heap.size _) hzr zeroF_nob, q2, q3⟩
            · exact Sees.setRowFar (show Sees w4 Ax (_) from hx4) w.heap.size _ (fun a ha => by have := hAx a ha; omega)
          clear hfin HTE HP hk4 hpay4 hx4 hB4
          go_wp2_with first | (refine wpList_load_part rfl 35 (.tmp 46) rfl m 13 rfl #[.int .i64 i.k, .int .i64 i.ch, .int .i64 i.bi, .int .i64 i.ra, .int .i64 i.bl, .int .i64 i.sh, .slice At l.length ct, .slice Ak L.length ck, .int .i64 (getT (b.drop s.at_)).2.2.1, .int .u32 (getT (b.drop s.at_)).2.2.2.1, .slice Ax (getT (b.drop s.at_)).2.2.2.2.length cx] _ 56 _ (0, 0) hm4 rfl Tryz.underlying35 rfl (by kernel_rfl) ?_) | (refine wpList_store_row rfl 35 (.tmp 4) (.tmp 47) rfl rfl w.heap.size rfl #[.int .i64 i.k, .int .i64 i.ch, .int .i64 i.bi, .int .i64 i.ra, .int .i64 i.bl, .int .i64 i.sh, .slice At l.length ct, .slice Ak L.length ck, .int .i64 (getT (b.drop s.at_)).2.2.1, .int .u32 (getT (b.drop s.at_)).2.2.2.1, .slice Ax (getT (b.drop s.at_)).2.2.2.2.length cx] rfl 35 #[.int .i64 0, .int .i64 0, .int .i64 0, .int .i64 0, .int .i64 0, .int .i64 0, .slice none 0 0, .slice none 0 0, .int .i64 0, .int .u32 0, .slice none 0 0] hzr (by kernel_rfl) rfl (by simp [Value.oneCell']) ?_)
          (try rw [Exit.noGoto_ret])
          refine bodyPost_ret (v := .tuple #[.agg #[.int .i64 i.k, .int .i64 i.ch, .int .i64 i.bi, .int .i64 i.ra, .int .i64 i.bl, .int .i64 i.sh, .slice At l.length ct, .slice Ak L.length ck, .int .i64 (getT (b.drop s.at_)).2.2.1, .int .u32 (getT (b.drop s.at_)).2.2.2.1, .slice Ax (getT (b.drop s.at_)).2.2.2.2.length cx], .int .i64 0]) (results_row_tmp (fn := Tryz.f5) (p := 4) (u := 5) (ty := 35) rfl _ _ w.heap.size _ _ _ _ rfl (setRow_heap _ _ _ _ _ _ hzr) Tryz.underlying35 rfl (by kernel_rfl)) rfl ?_
          exact HFIN
        · have dE : (E == 0) = false := by simpa using hz
          have dE1 : (E != 0) = true := by simpa using hz
          have HF := hid (show P = (E, FileV.zero) by rw [HP.out]; unfold finP; rw [if_neg (by simp), if_pos (by rw [← HTE.out]; exact hz), ← HTE.out])
          clear hfin HTE HP hw4
          go_wp2_with first | (refine wpList_build rfl 35 _ rfl (.agg #[.int .i64 0, .int .i64 0, .int .i64 0, .int .i64 0, .int .i64 0, .int .i64 0, .slice none 0 0, .slice none 0 0, .int .i64 0, .int .u32 0, .slice none 0 0]) (by kernel_rfl) ?_) | (refine wpList_store_row rfl 35 (.tmp 4) (.tmp 42) rfl rfl w.heap.size rfl #[.int .i64 0, .int .i64 0, .int .i64 0, .int .i64 0, .int .i64 0, .int .i64 0, .slice none 0 0, .slice none 0 0, .int .i64 0, .int .u32 0, .slice none 0 0] rfl 35 #[.int .i64 0, .int .i64 0, .int .i64 0, .int .i64 0, .int .i64 0, .int .i64 0, .slice none 0 0, .slice none 0 0, .int .i64 0, .int .u32 0, .slice none 0 0] hzr (by kernel_rfl) rfl (by simp [Value.oneCell']) ?_)
          (try rw [Exit.noGoto_ret])
          refine bodyPost_ret (v := .tuple #[.agg #[.int .i64 0, .int .i64 0, .int .i64 0, .int .i64 0, .int .i64 0, .int .i64 0, .slice none 0 0, .slice none 0 0, .int .i64 0, .int .u32 0, .slice none 0 0], .int .i64 E]) (results_row_tmp (fn := Tryz.f5) (p := 4) (u := 5) (ty := 35) rfl _ _ w.heap.size _ _ _ _ rfl (setRow_heap _ _ _ _ _ _ hzr) Tryz.underlying35 rfl (by kernel_rfl)) rfl ?_
          rw [HF.out]
          exact parse_bad E (below_setRow hbw (Nat.le_refl _) _)
      · have d1 : ((x.toNat : Int) == 69) = false := by
          show ((x.toNat : Int) == ((69 : Nat) : Int)) = false
          rw [byte_is x 69 (by omega)]
          simpa using hx
        have h69 : b[s.at_]? ≠ some 69 := by rw [hb69]; intro h; injection h with h; exact hx h
        replace HEX := hid (HEX.out w3 hb23 h69)
        clear hx hb69 h69 HN HEN
        go_wp2_with fail
        refine HEX.out.mono ?_
        rintro e w4 ⟨E, rfl, hcase⟩
        clear HEX
        go_wp2_with fail
        rcases hcase with ⟨hE, hb4, hP4⟩ | ⟨rfl, k, s', L', hR4, hs4, hP4, hk4, hat4⟩
        · refine ⟨.inl ⟨E, rfl, hE, hb4, hP4⟩, ?_⟩
          show (if intOf (.int .i64 E) = 0 then leftOf w4 m b.length else 0) < (if intOf (.int .i64 0) = 0 then leftOf wr m b.length else 0)
          rw [HLE.out, if_neg (show ¬ intOf (.int .i64 E) = 0 from hE), if_pos (show intOf (.int .i64 0) = 0 from rfl)]
          omega
        · refine ⟨.inr ⟨rfl, k, s', L', hR4, hs4, hP4, hk4⟩, ?_⟩
          show (if intOf (.int .i64 0) = 0 then leftOf w4 m b.length else 0) < (if intOf (.int .i64 0) = 0 then leftOf wr m b.length else 0)
          have := hs4.at_
          rw [HLE.out, hR4.left, if_pos (show intOf (.int .i64 0) = 0 from rfl), if_pos (show intOf (.int .i64 0) = 0 from rfl)]
          omega
    · have d0 : decide (0 < bd.length) = false := by rw [hdl]; simp; omega
      have d0' : decide ((0 : Int) < (bd.length : Int)) = false := by rw [hdl]; simp; omega
      have h69 : b[s.at_]? ≠ some 69 := by rw [List.getElem?_eq_none (by omega)]; simp
      replace HEX := hid (HEX.out w2 hb2 h69)
      clear hs2 hdl hbd HRT h69 HN HEN
      go_wp2_with fail
      refine HEX.out.mono ?_
      rintro e w4 ⟨E, rfl, hcase⟩
      clear HEX
      go_wp2_with fail
      rcases hcase with ⟨hE, hb4, hP4⟩ | ⟨rfl, k, s', L', hR4, hs4, hP4, hk4, hat4⟩
      · refine ⟨.inl ⟨E, rfl, hE, hb4, hP4⟩, ?_⟩
        show (if intOf (.int .i64 E) = 0 then leftOf w4 m b.length else 0) < (if intOf (.int .i64 0) = 0 then leftOf wr m b.length else 0)
        rw [HLE.out, if_neg (show ¬ intOf (.int .i64 E) = 0 from hE), if_pos (show intOf (.int .i64 0) = 0 from rfl)]
        omega
      · refine ⟨.inr ⟨rfl, k, s', L', hR4, hs4, hP4, hk4⟩, ?_⟩
        show (if intOf (.int .i64 0) = 0 then leftOf w4 m b.length else 0) < (if intOf (.int .i64 0) = 0 then leftOf wr m b.length else 0)
        have := hs4.at_
        rw [HLE.out, hR4.left, if_pos (show intOf (.int .i64 0) = 0 from rfl), if_pos (show intOf (.int .i64 0) = 0 from rfl)]
        omega
theorem parse_any (g : Nat) (Ab : Option Addr) (cb : Nat) (b : List UInt8) (w : World) (hB : Base w g Ab cb b) :
    Calls Tryz.prog 5 #[.pointer (some ⟨g, 0, none⟩), .slice Ab b.length cb] w (ParsePost w (parseF b)) := by
  by_cases hE : (begE b).1 = 0
  · exact parse_go g Ab cb b w hB hE
  · exact parse_beg g Ab cb b w hB hE
end Go.Proofs.YtkmhmehofipehaaGreatDoor
