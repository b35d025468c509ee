/- A file of info and any tags, as it begins. -/
import Derived.Test.YtkmhmehofipehaaDoorK12
import Derived.Test.YtkmhmehofipehaaDoorK3
import Derived.Deep.RegionHeld3
import Derived.Test.YtkmhmehofipehaaDoorK2
import Derived.BigQuiet
namespace Go.Proofs.YtkmhmehofipehaaDoor
set_option linter.unusedVariables false
open Go.RowKit
set_option maxHeartbeats 1000000 in
theorem opened_info (g : Nat) (k ch bi ra bl sh : Int) (v : Value) (w : World) (hr : rightI k ch bi ra bl sh = false) :
    Calls Tryd.prog 18 #[.pointer (some ⟨g, 0, none⟩), .agg #[.int .i64 k, .int .i64 ch, .int .i64 bi, .int .i64 ra, .int .i64 bl, .int .i64 sh], v] w fun e w' => e = .returned (.tuple #[.pointer none, .int .i64 32]) ∧ Below w.heap.size w w' := by
  have hb : Below w.heap.size w (w.alloc (.cells #[.int .i64 k, .int .i64 ch, .int .i64 bi, .int .i64 ra, .int .i64 bl, .int .i64 sh] 25)) := (Below.refl _ w).alloc (Nat.le_refl _) _
  have hrow := heap_alloc_new w (.cells #[.int .i64 k, .int .i64 ch, .int .i64 bi, .int .i64 ra, .int .i64 bl, .int .i64 sh] 25)
  go_enter Tryd.func18, Tryd.ntmps18
  go_wp2_with fail
  refine (iput_bad g k ch bi ra bl sh _ hr).mono ?_
  rintro e w1 ⟨rfl, hb1⟩
  go_wp2_with fail
  go_ret2
  exact ⟨rfl, hb.trans (hb1.mono hb.size)⟩
set_option maxRecDepth 20000 in
set_option maxHeartbeats 2000000 in
theorem opened_tags (g : Nat) (k ch bi ra bl sh : Nat) (A0 : Option Addr) (c0 : Nat) (l : List TagV) (w : World) (hl : SeesT w A0 l) (hlc : l.length ≤ c0) (hlen : l.length ≤ maxLen) (hs : Brief l) (hT : Tabs w) (hz : (checkT l).2 ≠ 0) (ht : Tab w g) (hr : rightI k ch bi ra bl sh = true) (hk : k < 256 ∧ ch < 256 ∧ bi < 256 ∧ sh < 256 ∧ ra < 16777216 ∧ bl < 4294967296) :
    Calls Tryd.prog 18 #[.pointer (some ⟨g, 0, none⟩), .agg #[.int .i64 k, .int .i64 ch, .int .i64 bi, .int .i64 ra, .int .i64 bl, .int .i64 sh], .slice A0 l.length c0] w fun e w' => e = .returned (.tuple #[.pointer none, .int .i64 (checkT l).2]) ∧ Below w.heap.size w w' := by
  have hb : Below w.heap.size w (w.alloc (.cells #[.int .i64 k, .int .i64 ch, .int .i64 bi, .int .i64 ra, .int .i64 bl, .int .i64 sh] 25)) := (Below.refl _ w).alloc (Nat.le_refl _) _
  have hrow := heap_alloc_new w (.cells #[.int .i64 k, .int .i64 ch, .int .i64 bi, .int .i64 ra, .int .i64 bl, .int .i64 sh] 25)
  have P1 := hid (fun W h => iput_ok g k ch bi ra bl sh W h hr hk)
  have P2 := hid (fun W (hb : Below w.heap.size w W) => tagput_bad g A0 c0 l W (hl.below hb) hlc hlen hs (hT.below hb) hz)
  have ht0 := ht.keep hb ht.lt
  generalize (checkT l).2 = E at *
  have dE : (E != 0) = true := by simpa using hz
  clear hr hk hl hs hz hT ht
  go_enter Tryd.func18, Tryd.ntmps18
  go_wp2_with fail
  refine (P1.out _ ht0).mono ?_
  rintro e w1 ⟨v, rfl, hv⟩
  obtain ⟨A1, d1, rfl, hs1, hA1, ho1, hb1⟩ := hv.parts
  have hbw1 := hb.trans (hb1.mono hb.size)
  go_wp2_with fail
  refine (P2.out w1 hbw1).mono ?_
  rintro e w2 ⟨rfl, hb2⟩
  go_wp2_with fail
  go_ret2
  exact ⟨rfl, hbw1.trans (hb2.mono hbw1.size)⟩
/-- a file on its way, as it begins -/
def BegunT (w : World) (g : Nat) (k ch bi ra bl sh : Nat) (out : List UInt8) (e : Ending) (w' : World) : Prop :=
  ∃ (m : Nat) (A : Option Addr) (c : Nat), e = .returned (.tuple #[.pointer (some ⟨m, 0, none⟩), .int .i64 0]) ∧ w'.heap[m]? = some (.cells #[.pointer (some ⟨g, 0, none⟩), .int .i64 k, .int .i64 ch, .int .i64 bi, .int .i64 ra, .int .i64 bl, .int .i64 sh, .slice A out.length c, .slice none 0 0, .int .i64 0, .bool false] 70 (0, 0)) ∧
    w'.ownsRow w.heap.size 5 1 (.slice A out.length c) out.length (out.map byteV) ∧ w.heap.size ≤ m ∧ Below w.heap.size w w'
set_option maxRecDepth 20000 in
set_option maxHeartbeats 4000000 in
theorem opened_ok (g : Nat) (k ch bi ra bl sh : Nat) (A0 : Option Addr) (c0 : Nat) (l : List TagV) (w : World) (hl : SeesT w A0 l) (hlc : l.length ≤ c0) (hlen : l.length ≤ maxLen) (hs : Brief l) (hT : Tabs w) (hz : (checkT l).2 = 0) (ht : Tab w g) (hr : rightI k ch bi ra bl sh = true) (hk : k < 256 ∧ ch < 256 ∧ bi < 256 ∧ sh < 256 ∧ ra < 16777216 ∧ bl < 4294967296) (out : List UInt8) (ho : out = sealed (infoHead k ch bi sh ra bl) ++ sealed (tagsB l)) :
    Calls Tryd.prog 18 #[.pointer (some ⟨g, 0, none⟩), .agg #[.int .i64 k, .int .i64 ch, .int .i64 bi, .int .i64 ra, .int .i64 bl, .int .i64 sh], .slice A0 l.length c0] w (BegunT w g k ch bi ra bl sh out) := by
  obtain ⟨X, hX⟩ : ∃ X, X = sealed (infoHead k ch bi sh ra bl) := ⟨_, rfl⟩
  obtain ⟨Y, hY⟩ : ∃ Y, Y = sealed (tagsB l) := ⟨_, rfl⟩
  have hXl : X.length = 19 := by rw [hX]; simp [sealed, infoHead, bytesLE_length]
  have hYl : Y.length ≤ 70004 := by rw [hY]; have := tagsB_len (short_of hz); unfold sealed; rw [List.length_append, bytesLE_length]; omega
  have hb : Below w.heap.size w (w.alloc (.cells #[.int .i64 k, .int .i64 ch, .int .i64 bi, .int .i64 ra, .int .i64 bl, .int .i64 sh] 25)) := (Below.refl _ w).alloc (Nat.le_refl _) _
  have hrow := heap_alloc_new w (.cells #[.int .i64 k, .int .i64 ch, .int .i64 bi, .int .i64 ra, .int .i64 bl, .int .i64 sh] 25)
  have P1 := hid (fun W h => iput_ok g k ch bi ra bl sh W h hr hk)
  have P2 := hid (fun W (hb : Below w.heap.size w W) h => tagput_ok g A0 c0 l W h (hl.below hb) hlc hlen hs (hT.below hb) hz)
  rw [← hX] at P1
  rw [← hY] at P2
  have HXL := hid hXl
  have HYL := hid hYl
  rw [← hX, ← hY] at ho
  have HO := hid ho
  clear hX hY hXl hYl ho hr hk hl hs hz hT hlc hlen
  have ht0 := ht.keep hb ht.lt
  go_enter Tryd.func18, Tryd.ntmps18
  go_wp2_with fail
  generalize hw0 : w.alloc (.cells #[.int .i64 k, .int .i64 ch, .int .i64 bi, .int .i64 ra, .int .i64 bl, .int .i64 sh] 25) = w0 at *
  clear hw0
  have c0 : w0.cell? ⟨w.heap.size, 0, none⟩ = some (.int .i64 (k : Int)) := by rw [cell_of_row _ _ _ _ _ _ hrow]; rfl
  have c1 : w0.cell? ⟨w.heap.size, 1, none⟩ = some (.int .i64 (ch : Int)) := by rw [cell_of_row _ _ _ _ _ _ hrow]; rfl
  have c2 : w0.cell? ⟨w.heap.size, 2, none⟩ = some (.int .i64 (bi : Int)) := by rw [cell_of_row _ _ _ _ _ _ hrow]; rfl
  have c3 : w0.cell? ⟨w.heap.size, 3, none⟩ = some (.int .i64 (ra : Int)) := by rw [cell_of_row _ _ _ _ _ _ hrow]; rfl
  have c4 : w0.cell? ⟨w.heap.size, 4, none⟩ = some (.int .i64 (bl : Int)) := by rw [cell_of_row _ _ _ _ _ _ hrow]; rfl
  have c5 : w0.cell? ⟨w.heap.size, 5, none⟩ = some (.int .i64 (sh : Int)) := by rw [cell_of_row _ _ _ _ _ _ hrow]; rfl
  clear hrow
  refine (P1.out w0 ht0).mono ?_
  rintro e w1 ⟨v, rfl, hv⟩
  obtain ⟨A1, d1, rfl, hs1, hA1, ho1, hb1⟩ := hv.parts
  have hbw1 := hb.trans (hb1.mono hb.size)
  have ht1 := ht0.keep hb1 ht0.lt
  replace c0 := keep1 hb1 c0
  replace c1 := keep1 hb1 c1
  replace c2 := keep1 hb1 c2
  replace c3 := keep1 hb1 c3
  replace c4 := keep1 hb1 c4
  replace c5 := keep1 hb1 c5
  clear hb hb1 hv hA1 ho1
  go_wp2_with fail
  refine (P2.out w1 hbw1 ht1).mono ?_
  rintro e w2 ⟨v, rfl, hv⟩
  obtain ⟨A2, d2, rfl, hs2, hA2, ho2, hb2⟩ := hv.parts
  have hbw2 := hbw1.trans (hb2.mono hbw1.size)
  replace hs1 := hs1.below hb2
  replace c0 := keep1 hb2 c0
  replace c1 := keep1 hb2 c1
  replace c2 := keep1 hb2 c2
  replace c3 := keep1 hb2 c3
  replace c4 := keep1 hb2 c4
  replace c5 := keep1 hb2 c5
  clear hbw1 hb2 hv hA2 ho2 ht1 ht0
  go_wp2_with fail
  have hbA : Below w2.heap.size w2 (w2.drew.alloc (.cells #[.slice A1 X.length d1, .slice A2 Y.length d2] 32)) := ((Below.refl _ w2).drew).alloc (Nat.le_refl _) _
  have h0l : 0 < X.length + Y.length := by have := HXL.out; omega
  have hll : X.length + Y.length ≤ 70368744177664 := by have := HXL.out; have := HYL.out; omega
  go_region_held3 (fun w' => w'.cell? ⟨w.heap.size, 0, none⟩ = some (.int .i64 (k : Int)) ∧ w'.cell? ⟨w.heap.size, 1, none⟩ = some (.int .i64 (ch : Int)) ∧ w'.cell? ⟨w.heap.size, 2, none⟩ = some (.int .i64 (bi : Int)) ∧ w'.cell? ⟨w.heap.size, 3, none⟩ = some (.int .i64 (ra : Int)) ∧ w'.cell? ⟨w.heap.size, 4, none⟩ = some (.int .i64 (bl : Int)) ∧ w'.cell? ⟨w.heap.size, 5, none⟩ = some (.int .i64 (sh : Int))) (first | exact ⟨c0, c1, c2, c3, c4, c5⟩ | exact ⟨f0, f1, f2, f3, f4, f5⟩ | go_keep)
    (first | (go_at_call 40; refine (concat_two w2.heap.size A1 A2 d1 d2 X Y _ ?_ ?_ ?_ h0l hll).mono ?_; exact heap_alloc_new w2.drew _; exact hs1.below hbA; exact hs2.below hbA; rintro e w3 ⟨v, rfl, hv⟩; obtain ⟨A3, d3, rfl, hs3, hA3, ho3, hb3⟩ := hv.parts; have f0 := keep1 hb3 (keep1 hbA c0); have f1 := keep1 hb3 (keep1 hbA c1); have f2 := keep1 hb3 (keep1 hbA c2); have f3 := keep1 hb3 (keep1 hbA c3); have f4 := keep1 hb3 (keep1 hbA c4); have f5 := keep1 hb3 (keep1 hbA c5)))
  have hbw3 := (hbw2.trans (hbA.mono hbw2.size)).trans (hb3.mono (Nat.le_trans hbw2.size hbA.size))
  have hfin : BegunT w g k ch bi ra bl sh (X ++ Y) (.returned (.tuple #[.pointer (some ⟨w3.heap.size, 0, none⟩), .int .i64 0])) (w3.alloc (.cells #[.pointer (some ⟨g, 0, none⟩), .int .i64 k, .int .i64 ch, .int .i64 bi, .int .i64 ra, .int .i64 bl, .int .i64 sh, .slice A3 (X.length + Y.length) d3, .slice none 0 0, .int .i64 0, .bool false] 70)) := by
    rw [← List.length_append]
    exact ⟨w3.heap.size, A3, d3, rfl, heap_alloc_new _ _, (Joins.ownsRow_le ho3 (Nat.le_trans hbw2.size hbA.size)).alloc _, hbw3.size, hbw3.alloc hbw3.size _⟩
  obtain rfl : out = X ++ Y := HO.out
  clear hb3 ho3 hs3 hv hA3 c0 c1 c2 c3 c4 c5 f0 f1 f2 f3 f4 f5 hs1 hs2
  go_wp2_with fail
  go_ret2
  exact hfin
theorem own_keepF {w w' : World} {base : Nat} {e : TypeId} {size : Nat} {v : Value} {n : Nat} {xs : List Value} (h : w.ownsRow base e size v n xs) (hb : Below w.heap.size w w') : w'.ownsRow base e size v n xs := by
  refine ⟨h.1, ?_⟩
  rcases h.2 with h' | ⟨g, cap, cur, hv, hbg, hg, rest⟩
  · exact .inl h'
  · exact .inr ⟨g, cap, cur, hv, hbg, (hb.block g (Array.getElem?_eq_some_iff.1 hg).1).trans hg, rest⟩
end Go.Proofs.YtkmhmehofipehaaDoor
/- A block put behind the others. -/
namespace Go.Proofs.YtkmhmehofipehaaDoor
set_option linter.unusedVariables false
open Go.RowKit
/-- rows of unlike cells do not share a block -/
theorem own_apart {w : World} {base base' size size' n n' : Nat} {e e' : TypeId} {v v' : Value} {xs xs' : List Value} (h : w.ownsRow base e size v n xs) (h' : w.ownsRow base' e' size' v' n' xs') (hne : e ≠ e') (k : Nat) (hk : v.ownBlock = some k) : v'.ownBlock ≠ some k := by
  rcases h.2 with ⟨rfl, _⟩ | ⟨g, cap, cur, rfl, hb, hg, _⟩
  · simp [Value.ownBlock] at hk
  · simp [Value.ownBlock] at hk
    subst hk
    exact own_other h' hg (Ne.symm hne)
theorem SeesB.farB {w w' : World} {A : Option Addr} {l : List UInt8} {B : Nat} (h : SeesB w A l) (hA : ∀ a, A = some a → a.block < B) (hb : Below B w w') : SeesB w' A l := by
  intro i v hv
  obtain ⟨a, ha, hc⟩ := h i v hv
  exact ⟨a, ha, (World.cell?_of_block (w := w) (hb.block _ (by rw [addr_block]; exact hA a ha))).trans hc⟩
def MkrRow (g : Nat) (i : InfoV) (A : Option Addr) (n c : Nat) (Ap : Option Addr) (np cp : Nat) (cnt : Int) (short : Bool) : Array Value :=
  #[.pointer (some ⟨g, 0, none⟩), .int .i64 i.k, .int .i64 i.ch, .int .i64 i.bi, .int .i64 i.ra, .int .i64 i.bl, .int .i64 i.sh, .slice A n c, .slice Ap np cp, .int .i64 cnt, .bool short]
/-- block m is a file on its way -/
def Mkr (w : World) (m g : Nat) (i : InfoV) (s : FileS) (base : Nat) : Prop :=
  ∃ (A : Option Addr) (c : Nat) (Ap : Option Addr) (cp : Nat), w.heap[m]? = some (.cells (MkrRow g i A s.out.length c Ap s.pl.length cp s.cnt s.short) 70 (0, 0)) ∧ w.ownsRow base 5 1 (.slice A s.out.length c) s.out.length (s.out.map byteV) ∧
    w.ownsRow base 3 1 (.slice Ap s.pl.length cp) s.pl.length (s.pl.map intV) ∧ base ≤ m ∧ base ≤ w.heap.size
theorem Mkr.below {w w' : World} {m g : Nat} {i : InfoV} {s : FileS} {base : Nat} (h : Mkr w m g i s base) (hb : Below w.heap.size w w') : Mkr w' m g i s base := by
  obtain ⟨A, c, Ap, cp, hm, ho, hp, h1, h2⟩ := h
  exact ⟨A, c, Ap, cp, (hb.block m (Array.getElem?_eq_some_iff.1 hm).1).trans hm, own_keepF ho hb, own_keepF hp hb, h1, Nat.le_trans h2 hb.size⟩
set_option maxRecDepth 20000 in
set_option maxHeartbeats 4000000 in
theorem madd_bad (m g : Nat) (i : InfoV) (s : FileS) (base : Nat) (A0 : Option Addr) (c0 : Nat) (b : List UInt8) (w : World) (hM : Mkr w m g i s base) (ht : Tab w g) (hl : SeesB w A0 b) (hc : b.length ≤ c0) (hcm : c0 ≤ maxLen) (hb300 : b.length ≤ 300) (hbi : 8 ≤ i.bi ∧ i.bi ≤ 24) (hs : s.pl.length ≤ 1000) (hE : (addE i s b).1 ≠ 0) :
    Calls Tryd.prog 19 #[.pointer (some ⟨m, 0, none⟩), .slice A0 b.length c0] w fun e w' => e = .returned (.int .i64 (addE i s b).1) ∧ Below w.heap.size w w' := by
  obtain ⟨A, c, Ap, cp, hm, ho, hp, hbm, hbw0⟩ := hM
  have hO := hopen_any g A0 c0 b w hl hc hcm (by omega) ht
  obtain ⟨⟨E, h, P, S⟩, hr⟩ : ∃ r, openH b = r := ⟨_, rfl⟩
  rw [hr] at hO
  obtain ⟨R, hR⟩ : ∃ R, R = (addE i s b).1 := ⟨_, rfl⟩
  rw [← hR] at hE ⊢
  have hfine : E = 0 → rightH h.k h.idx h.len h.stp h.bnd h.lst h.lnk h.siz = true ∧ 36 + h.siz ≤ b.length ∧ 0 ≤ h.siz := fun h0 => by
    have h1 := openH_fine (b := b) (by rw [hr]; exact h0)
    rw [hr] at h1
    exact ⟨h1.2.1, h1.1, h1.2.2⟩
  unfold addE at hR
  rw [hr] at hR
  simp only at hR
  have dR : (R != 0) = true := by simpa using hE
  by_cases hz : E = 0
  case neg =>
    rw [if_pos hz] at hR
    simp only at hR
    have dE : (E != 0) = true := by simpa using hz
    subst hR
    clear hfine hr hz
    obtain ⟨hk, hidx, hlen, hstp, hbnd, hlst, hlnk, hsiz⟩ := h
    unfold OpenPost HeadV.cells at hO
    simp only at hO
    have HO := hid hO
    have m0 : w.cell? ⟨m, 0, none⟩ = some (.pointer (some ⟨g, 0, none⟩)) := by rw [cell_of_row _ _ _ _ _ _ hm]; rfl
    clear hO ht hl
    go_enter Tryd.func19, Tryd.ntmps19
    go_wp2_with fail
    refine HO.out.mono ?_
    rintro e w1 ⟨A1, c1, rfl, _, _, _, hb1⟩
    have hm1 := (hb1.block m (Array.getElem?_eq_some_iff.1 hm).1).trans hm
    have hba := (Below.refl w1.heap.size w1).alloc (Nat.le_refl _) (.cells #[.int .i64 hk, .int .i64 hidx, .int .i64 hlen, .int .i64 hstp, .int .i64 hbnd, .bool hlst, .int .u32 hlnk, .int .i64 hsiz] 52)
    have hrow := heap_alloc_new w1 (.cells #[.int .i64 hk, .int .i64 hidx, .int .i64 hlen, .int .i64 hstp, .int .i64 hbnd, .bool hlst, .int .u32 hlnk, .int .i64 hsiz] 52)
    have hmA := (hba.block m (Array.getElem?_eq_some_iff.1 hm1).1).trans hm1
    have hbwA := hb1.trans (hba.mono hb1.size)
    clear m0 hm1 hba HO
    clear hrow hmA
    go_wp2_with fail
    go_ret
    exact ⟨rfl, hbwA⟩
  rw [if_neg (by rw [hz]; simp)] at hR
  subst hz
  obtain ⟨hrt, hsz, hs0⟩ := hfine rfl
  clear hfine hr
  obtain ⟨nE, hnE⟩ : ∃ nE, nE = nextE i h s.pl.length s.short := ⟨_, rfl⟩
  have hbad := fun W cs (hm : W.heap[m]? = some (.cells cs 70 (0, 0))) h1 h2 h3 h4 h5 h6 h8 h10 hq => mnext_bad m cs 70 i h (s.out.length : Int) s.pl.length cp Ap s.short W hbi hm h1 h2 h3 h4 h5 h6 h8 h10 hq
  rw [← hnE] at hR hbad
  have hlg := fun W => hlong_any h.k h.idx h.len h.stp h.bnd h.lst h.lnk h.siz W
  unfold longH at hlg
  rw [if_pos hrt] at hlg
  have HLG := hid hlg
  have HR := hid hR
  have HBAD := hid hbad
  clear hlg hrt hR hbad hnE
  obtain ⟨hk, hidx, hlen, hstp, hbnd, hlst, hlnk, hsiz⟩ := h
  unfold OpenPost HeadV.cells at hO
  simp only at hO
  have HO := hid hO
  have m0 : w.cell? ⟨m, 0, none⟩ = some (.pointer (some ⟨g, 0, none⟩)) := by rw [cell_of_row _ _ _ _ _ _ hm]; rfl
  clear hO ht hl
  go_enter Tryd.func19, Tryd.ntmps19
  go_wp2_with fail
  refine HO.out.mono ?_
  rintro e w1 ⟨A1, c1, rfl, _, _, _, hb1⟩
  have hm1 := (hb1.block m (Array.getElem?_eq_some_iff.1 hm).1).trans hm
  have hba := (Below.refl w1.heap.size w1).alloc (Nat.le_refl _) (.cells #[.int .i64 hk, .int .i64 hidx, .int .i64 hlen, .int .i64 hstp, .int .i64 hbnd, .bool hlst, .int .u32 hlnk, .int .i64 hsiz] 52)
  have hrow := heap_alloc_new w1 (.cells #[.int .i64 hk, .int .i64 hidx, .int .i64 hlen, .int .i64 hstp, .int .i64 hbnd, .bool hlst, .int .u32 hlnk, .int .i64 hsiz] 52)
  have hmA := (hba.block m (Array.getElem?_eq_some_iff.1 hm1).1).trans hm1
  have hbwA := hb1.trans (hba.mono hb1.size)
  clear m0 hm1 hba HO
  (try simp only at HLG)
  (try simp only at HR)
  (try simp only at hsz hs0)
  unfold HeadV.v at HBAD
  (try simp only at HBAD)
  go_wp2_with fail
  generalize w1.alloc (.cells #[.int .i64 hk, .int .i64 hidx, .int .i64 hlen, .int .i64 hstp, .int .i64 hbnd, .bool hlst, .int .u32 hlnk, .int .i64 hsiz] 52) = w2 at *
  generalize w1.heap.size = gh at *
  have e0 : w2.cell? ⟨gh, 0, none⟩ = some (.int .i64 hk) := by rw [cell_of_row _ _ _ _ _ _ hrow]; rfl
  have e1 : w2.cell? ⟨gh, 1, none⟩ = some (.int .i64 hidx) := by rw [cell_of_row _ _ _ _ _ _ hrow]; rfl
  have e2 : w2.cell? ⟨gh, 2, none⟩ = some (.int .i64 hlen) := by rw [cell_of_row _ _ _ _ _ _ hrow]; rfl
  have e3 : w2.cell? ⟨gh, 3, none⟩ = some (.int .i64 hstp) := by rw [cell_of_row _ _ _ _ _ _ hrow]; rfl
  have e4 : w2.cell? ⟨gh, 4, none⟩ = some (.int .i64 hbnd) := by rw [cell_of_row _ _ _ _ _ _ hrow]; rfl
  have e5 : w2.cell? ⟨gh, 5, none⟩ = some (.bool hlst) := by rw [cell_of_row _ _ _ _ _ _ hrow]; rfl
  have e6 : w2.cell? ⟨gh, 6, none⟩ = some (.int .u32 hlnk) := by rw [cell_of_row _ _ _ _ _ _ hrow]; rfl
  have e7 : w2.cell? ⟨gh, 7, none⟩ = some (.int .i64 hsiz) := by rw [cell_of_row _ _ _ _ _ _ hrow]; rfl
  refine (HLG.out w2).mono ?_
  rintro e w3 ⟨rfl, hb3⟩
  have hm3 := (hb3.block m (Array.getElem?_eq_some_iff.1 hmA).1).trans hmA
  have hbw3 := hbwA.trans (hb3.mono hbwA.size)
  clear HLG hmA hbwA hrow
  replace e0 := keep1 hb3 e0
  replace e1 := keep1 hb3 e1
  replace e2 := keep1 hb3 e2
  replace e3 := keep1 hb3 e3
  replace e4 := keep1 hb3 e4
  replace e5 := keep1 hb3 e5
  replace e6 := keep1 hb3 e6
  replace e7 := keep1 hb3 e7
  clear hb3
  by_cases hlong : (36 + hsiz : Int) < b.length
  · have d3 : decide (36 + hsiz < (b.length : Int)) = true := decide_eq_true hlong
    obtain rfl : R = 62 := by rw [HR.out, if_pos hlong]
    clear HR hlong
    go_wp2_with fail
    go_ret
    exact ⟨rfl, hbw3⟩
  have d3 : decide (36 + hsiz < (b.length : Int)) = false := decide_eq_false hlong
  have hRn : R = nE := by
    have h1 := HR.out
    rw [if_neg hlong] at h1
    by_cases hn : nE = 0
    · rw [if_neg (by rw [hn]; simp)] at h1; exact absurd h1 hE
    · rw [if_pos hn] at h1; exact h1
  subst hRn
  have hnx := hid (fun W hm => HBAD.out W (MkrRow g i A s.out.length c Ap s.pl.length cp s.cnt s.short) hm rfl rfl rfl rfl rfl rfl rfl rfl hE)
  have m7 : w3.cell? ⟨m, 7, none⟩ = some (.slice A s.out.length c) := by rw [cell_of_row _ _ _ _ _ _ hm3]; rfl
  clear HR hlong HBAD hE
  go_wp2_with fail
  go_region_held3 (fun w' => w'.cell? ⟨gh, 0, none⟩ = some (.int .i64 hk) ∧ w'.cell? ⟨gh, 1, none⟩ = some (.int .i64 hidx) ∧ w'.cell? ⟨gh, 2, none⟩ = some (.int .i64 hlen) ∧ w'.cell? ⟨gh, 3, none⟩ = some (.int .i64 hstp) ∧ w'.cell? ⟨gh, 4, none⟩ = some (.int .i64 hbnd) ∧ w'.cell? ⟨gh, 5, none⟩ = some (.bool hlst) ∧ w'.cell? ⟨gh, 6, none⟩ = some (.int .u32 hlnk) ∧ w'.cell? ⟨gh, 7, none⟩ = some (.int .i64 hsiz) ∧ w'.cell? ⟨m, 7, none⟩ = some (.slice A s.out.length c))
    (first | exact ⟨e0, e1, e2, e3, e4, e5, e6, e7, m7⟩ | exact ⟨k0, k1, k2, k3, k4, k5, k6, k7, n7⟩ | go_keep)
    (first | (go_at_call 43; refine (hnx.out _ ?_).mono ?_; exact hm3; rintro e w4 ⟨rfl, hb4⟩; have k0 := keep1 hb4 e0; have k1 := keep1 hb4 e1; have k2 := keep1 hb4 e2; have k3 := keep1 hb4 e3; have k4 := keep1 hb4 e4; have k5 := keep1 hb4 e5; have k6 := keep1 hb4 e6; have k7 := keep1 hb4 e7; have n7 := keep1 hb4 m7))
  have hbw4 := hbw3.trans ((undrewF hb4).mono hbw3.size)
  clear hb4 e0 k0 e1 k1 e2 k2 e3 k3 e4 k4 e5 k5 e6 k6 e7 k7 m7 n7 hnx hm3
  go_wp2_with fail
  go_ret
  exact ⟨rfl, hbw4⟩
set_option maxRecDepth 20000 in
set_option maxHeartbeats 4000000 in
theorem madd_ok (m g : Nat) (i : InfoV) (s : FileS) (base : Nat) (A0 : Option Addr) (c0 : Nat) (b : List UInt8) (w : World) (hM : Mkr w m g i s base) (ht : Tab w g) (hl : SeesB w A0 b) (hc : b.length ≤ c0) (hcm : c0 ≤ maxLen) (hb300 : b.length ≤ 300) (hbi : 8 ≤ i.bi ∧ i.bi ≤ 24) (hAb : ∀ a, A0 = some a → a.block < base) (n : Nat) (hs : s.ok n) (hn : n ≤ 12) (hE : (addE i s b).1 = 0) :
    Calls Tryd.prog 19 #[.pointer (some ⟨m, 0, none⟩), .slice A0 b.length c0] w fun e w' => e = .returned (.int .i64 0) ∧ Mkr w' m g i (addE i s b).2 base ∧ Below base w w' := by
  obtain ⟨A, c, Ap, cp, hm, ho, hp, hbm, hbw0⟩ := hM
  have hO := hopen_any g A0 c0 b w hl hc hcm (by omega) ht
  obtain ⟨⟨E, h, P, S⟩, hr⟩ : ∃ r, openH b = r := ⟨_, rfl⟩
  rw [hr] at hO
  obtain ⟨hz, hbl, hnx, hR⟩ := addE_ok hE
  have hfine := openH_fine hz
  have hlens := openH_len hz
  obtain ⟨s', hs'⟩ : ∃ s', s' = (addE i s b).2 := ⟨_, rfl⟩
  rw [← hs'] at hR ⊢
  rw [hr] at hz hbl hnx hR hfine hlens
  simp only at hz hbl hnx hR hfine hlens
  subst hz
  obtain ⟨hsz, hrt, hs0⟩ := hfine
  have hcn := hs.cnt
  have hon := hs.out
  have hpn := hs.pl
  have hok := fun W cs (hm : W.heap[m]? = some (.cells cs 70 (0, 0))) h1 h2 h3 h4 h5 h6 h8 h10 h9 (hown : W.ownsRow base 3 1 (.slice Ap s.pl.length cp) s.pl.length (s.pl.map intV)) (hbase : base ≤ W.heap.size) => mnext_ok m cs 70 i h (s.out.length : Int) s.pl.length cp Ap s.short W hbi hm h1 h2 h3 h4 h5 h6 h8 h10 s.cnt h9 base s.pl rfl hown hbase (by decide) (by omega) (by omega) (by omega) hnx
  have hlg := fun W => hlong_any h.k h.idx h.len h.stp h.bnd h.lst h.lnk h.siz W
  unfold longH at hlg
  rw [if_pos hrt] at hlg
  have HLG := hid hlg
  have HOK := hid hok
  have HR := hid hR
  have HP := hid hp
  have HOO := hid ho
  have HL := hid hl
  have HQ := hid (show ∀ bb, (bb = m ∨ (Value.slice Ap s.pl.length cp).ownBlock = some bb) → bb < w.heap.size from fun bb hh => by
    rcases hh with hh | hh
    · have := (Array.getElem?_eq_some_iff.1 hm).1; omega
    · exact own_lt hp hh)
  clear hlg hrt hR hok hnx hs' hr hE hp ho
  obtain ⟨hk, hidx, hlen, hstp, hbnd, hlst, hlnk, hsiz⟩ := h
  unfold OpenPost HeadV.cells at hO
  simp only at hO
  have HO := hid hO
  have m0 : w.cell? ⟨m, 0, none⟩ = some (.pointer (some ⟨g, 0, none⟩)) := by rw [cell_of_row _ _ _ _ _ _ hm]; rfl
  clear hO ht hl
  go_enter Tryd.func19, Tryd.ntmps19
  go_wp2_with fail
  refine HO.out.mono ?_
  rintro e w1 ⟨A1, c1, rfl, _, _, _, hb1⟩
  have hm1 := (hb1.block m (Array.getElem?_eq_some_iff.1 hm).1).trans hm
  have hba := (Below.refl w1.heap.size w1).alloc (Nat.le_refl _) (.cells #[.int .i64 hk, .int .i64 hidx, .int .i64 hlen, .int .i64 hstp, .int .i64 hbnd, .bool hlst, .int .u32 hlnk, .int .i64 hsiz] 52)
  have hrow := heap_alloc_new w1 (.cells #[.int .i64 hk, .int .i64 hidx, .int .i64 hlen, .int .i64 hstp, .int .i64 hbnd, .bool hlst, .int .u32 hlnk, .int .i64 hsiz] 52)
  have hmA := (hba.block m (Array.getElem?_eq_some_iff.1 hm1).1).trans hm1
  have hbwA := hb1.trans (hba.mono hb1.size)
  clear m0 hm1 hba HO
  (try simp only at HLG)
  (try simp only at HR)
  (try simp only at hsz hs0 hlens hbl)
  unfold HeadV.v at HOK
  (try simp only at HOK)
  have hbwA1 : w.heap.size ≤ w1.heap.size := hb1.size
  go_wp2_with fail
  generalize w1.alloc (.cells #[.int .i64 hk, .int .i64 hidx, .int .i64 hlen, .int .i64 hstp, .int .i64 hbnd, .bool hlst, .int .u32 hlnk, .int .i64 hsiz] 52) = w2 at *
  generalize w1.heap.size = gh at *
  have e0 : w2.cell? ⟨gh, 0, none⟩ = some (.int .i64 hk) := by rw [cell_of_row _ _ _ _ _ _ hrow]; rfl
  have e1 : w2.cell? ⟨gh, 1, none⟩ = some (.int .i64 hidx) := by rw [cell_of_row _ _ _ _ _ _ hrow]; rfl
  have e2 : w2.cell? ⟨gh, 2, none⟩ = some (.int .i64 hlen) := by rw [cell_of_row _ _ _ _ _ _ hrow]; rfl
  have e3 : w2.cell? ⟨gh, 3, none⟩ = some (.int .i64 hstp) := by rw [cell_of_row _ _ _ _ _ _ hrow]; rfl
  have e4 : w2.cell? ⟨gh, 4, none⟩ = some (.int .i64 hbnd) := by rw [cell_of_row _ _ _ _ _ _ hrow]; rfl
  have e5 : w2.cell? ⟨gh, 5, none⟩ = some (.bool hlst) := by rw [cell_of_row _ _ _ _ _ _ hrow]; rfl
  have e6 : w2.cell? ⟨gh, 6, none⟩ = some (.int .u32 hlnk) := by rw [cell_of_row _ _ _ _ _ _ hrow]; rfl
  have e7 : w2.cell? ⟨gh, 7, none⟩ = some (.int .i64 hsiz) := by rw [cell_of_row _ _ _ _ _ _ hrow]; rfl
  refine (HLG.out w2).mono ?_
  rintro e w3 ⟨rfl, hb3⟩
  have hm3 := (hb3.block m (Array.getElem?_eq_some_iff.1 hmA).1).trans hmA
  have hbw3 := hbwA.trans (hb3.mono hbwA.size)
  have hrow3 := (hb3.block gh (Array.getElem?_eq_some_iff.1 hrow).1).trans hrow
  clear HLG hmA hbwA hrow
  replace e0 := keep1 hb3 e0
  replace e1 := keep1 hb3 e1
  replace e2 := keep1 hb3 e2
  replace e3 := keep1 hb3 e3
  replace e4 := keep1 hb3 e4
  replace e5 := keep1 hb3 e5
  replace e6 := keep1 hb3 e6
  replace e7 := keep1 hb3 e7
  clear hb3
  have d3 : decide (36 + hsiz < (b.length : Int)) = false := decide_eq_false (by omega)
  have m7 : w3.cell? ⟨m, 7, none⟩ = some (.slice A s.out.length c) := by rw [cell_of_row _ _ _ _ _ _ hm3]; rfl
  have hp3 := own_keepF HP.out hbw3
  have ho3 := own_keepF HOO.out hbw3
  have hbs3 : base ≤ w3.heap.size := Nat.le_trans hbw0 hbw3.size
  have hnx := hid (fun W (hb : Below w3.heap.size w3 W) => HOK.out W (MkrRow g i A s.out.length c Ap s.pl.length cp s.cnt s.short) ((hb.block m (Array.getElem?_eq_some_iff.1 hm3).1).trans hm3) rfl rfl rfl rfl rfl rfl rfl rfl rfl (own_keepF hp3 hb) (Nat.le_trans hbs3 hb.size))
  clear HOK HP HOO
  have hdr : Below w3.heap.size w3 w3.drew := (Below.refl _ _).drew
  have HM3 := hid hm3
  have HP3 := hid hp3
  have HO3 := hid ho3
  have hglt : gh < w3.heap.size := (Array.getElem?_eq_some_iff.1 hrow3).1
  clear hm3 hp3 ho3
  go_wp2_with fail
  go_region_held3 (fun w' => w'.cell? ⟨gh, 0, none⟩ = some (.int .i64 hk) ∧ w'.cell? ⟨gh, 1, none⟩ = some (.int .i64 hidx) ∧ w'.cell? ⟨gh, 2, none⟩ = some (.int .i64 hlen) ∧ w'.cell? ⟨gh, 3, none⟩ = some (.int .i64 hstp) ∧ w'.cell? ⟨gh, 4, none⟩ = some (.int .i64 hbnd) ∧ w'.cell? ⟨gh, 5, none⟩ = some (.bool hlst) ∧ w'.cell? ⟨gh, 6, none⟩ = some (.int .u32 hlnk) ∧ w'.cell? ⟨gh, 7, none⟩ = some (.int .i64 hsiz) ∧ w'.cell? ⟨m, 7, none⟩ = some (.slice A s.out.length c))
    (first | exact ⟨e0, e1, e2, e3, e4, e5, e6, e7, m7⟩ | exact ⟨k0, k1, k2, k3, k4, k5, k6, k7, n7⟩ | go_keep)
    (first | (go_at_call 43; refine (hnx.out _ hdr).mono ?_; rintro e w4 ⟨rfl, Aq, cq, hm4, hp4, hB4, _⟩; have hrow4 := (hB4.block gh hglt (fun h => by have := HQ.out gh h; omega)).trans hrow3; have k0 : w4.cell? ⟨gh, 0, none⟩ = some (.int .i64 hk) := (by rw [cell_of_row _ _ _ _ _ _ hrow4]; rfl); have k1 : w4.cell? ⟨gh, 1, none⟩ = some (.int .i64 hidx) := (by rw [cell_of_row _ _ _ _ _ _ hrow4]; rfl); have k2 : w4.cell? ⟨gh, 2, none⟩ = some (.int .i64 hlen) := (by rw [cell_of_row _ _ _ _ _ _ hrow4]; rfl); have k3 : w4.cell? ⟨gh, 3, none⟩ = some (.int .i64 hstp) := (by rw [cell_of_row _ _ _ _ _ _ hrow4]; rfl); have k4 : w4.cell? ⟨gh, 4, none⟩ = some (.int .i64 hbnd) := (by rw [cell_of_row _ _ _ _ _ _ hrow4]; rfl); have k5 : w4.cell? ⟨gh, 5, none⟩ = some (.bool hlst) := (by rw [cell_of_row _ _ _ _ _ _ hrow4]; rfl); have k6 : w4.cell? ⟨gh, 6, none⟩ = some (.int .u32 hlnk) := (by rw [cell_of_row _ _ _ _ _ _ hrow4]; rfl); have k7 : w4.cell? ⟨gh, 7, none⟩ = some (.int .i64 hsiz) := (by rw [cell_of_row _ _ _ _ _ _ hrow4]; rfl); have n7 : w4.cell? ⟨m, 7, none⟩ = some (.slice A s.out.length c) := (by rw [cell_of_row _ _ _ _ _ _ hm4]; rfl)))
  have hB4' : But (fun b => b = m ∨ (Value.slice Ap s.pl.length cp).ownBlock = some b) w3 w4 := (But.of_below hdr).trans hB4 (fun n h => .inl h)
  have hm4' : w4.heap[m]? = some (.cells (MkrRow g i A s.out.length c Aq (s.pl.length + 1) cq (s.cnt + hlen) (decide (hlen < i.bl))) 70 (0, 0)) := hm4
  have hR3 : ∀ bb, (bb = m ∨ (Value.slice Ap s.pl.length cp).ownBlock = some bb) → base ≤ bb := fun bb hh => by
    rcases hh with hh | hh
    · omega
    · exact own_base HP3.out hh
  have hbb4 := But.below (hbw3.mono hbw0) hB4' hR3 hbs3
  have ho4 := own_but HO3.out hB4' (fun k hk hh => by
    rcases hh with hh | hh
    · exact own_other HO3.out HM3.out (by decide) (by rw [← hh]; exact hk)
    · exact own_apart HO3.out HP3.out (by decide) k hk hh)
  have hlb4 := SeesB.farB HL.out hAb hbb4
  clear e0 k0 e1 k1 e2 k2 e3 k3 e4 k4 e5 k5 e6 k6 e7 k7 m7 n7 hnx hm4 hB4 HQ HL HP3 HO3 HM3 hrow3 hrow4 hR3 hB4' hdr
  have m9 : w4.cell? ⟨m, 9, none⟩ = some (.int .i64 (s.cnt + hlen)) := by rw [cell_of_row _ _ _ _ _ _ hm4']; rfl
  have m7 : w4.cell? ⟨m, 7, none⟩ = some (.slice A s.out.length c) := by rw [cell_of_row _ _ _ _ _ _ hm4']; rfl
  have d9 : decide (4294967295 < s.cnt + hlen) = false := decide_eq_false (by omega)
  have hbs4 : base ≤ w4.heap.size := Nat.le_trans hbw0 hbb4.size
  obtain ⟨M, hM⟩ : ∃ M, M = s.out ++ b := ⟨_, rfl⟩
  have HNL := hid (show s.out.length + b.length = M.length by rw [hM, List.length_append])
  have HXL := hid (show s.out.map byteV ++ b.map byteV = M.map byteV by rw [hM, List.map_append])
  rw [← hM] at HR
  clear hM
  have HM4 := hid hm4'
  have hml4 := (Array.getElem?_eq_some_iff.1 hm4').1
  clear hm4'
  go_wp2_with (at_builtin; refine wpList_app rfl (.tmp 51) (.tmp 52) _ rfl elB rfl ho4 A0 b.length c0 rfl _ hlb4 (by simp) (byte_one _) M.length HNL.out _ HXL.out (by have := HNL.out; unfold maxLen; omega) (by have := HNL.out; omega) hbs4 ?_; intro A5 c5 w5 ho5 hgr hat hbel; have hm5 := (hgr.block m hml4 (fun hh => own_other ho4 HM4.out (by decide) hh.symm)).trans HM4.out; have m7b : w5.cell? ⟨m, 7, none⟩ = some (.slice A s.out.length c) := (by rw [cell_of_row _ _ _ _ _ _ hm5]; rfl); have f7b : w5.frozen? ⟨m, 7, none⟩ = false := frozen_of_row _ _ _ _ _ hm5)
  have hp5 := own_but hp4 (But.of_grown hgr hbel) (fun k hk hh => own_apart hp4 ho4 (by decide) k hk hh)
  have hB6 : But (Only m) w5 (w5.setCell ⟨m, 7, none⟩ (.slice A5 M.length c5)) := ⟨rfl, rfl, rfl, by simp [World.setCell], fun b _ hb => heap_setCell_other w5 _ b _ (fun h => hb h)⟩
  have hm6 := heap_setCell_same w5 m 7 _ _ (.slice A5 M.length c5) hm5
  have hp6 := own_but hp5 hB6 (fun k hk hh => own_other hp5 hm5 (by decide) (by have h2 : k = m := hh; rw [← h2]; exact hk))
  have ho6 := own_but ho5 hB6 (fun k hk hh => own_other ho5 hm5 (by decide) (by have h2 : k = m := hh; rw [← h2]; exact hk))
  have hbb5 := hbb4.trans hbel
  have hbb6 := But.below hbb5 hB6 (fun bb hh => by have h2 : bb = m := hh; omega) (Nat.le_trans hbw0 hbb5.size)
  have hfin : Mkr (w5.setCell ⟨m, 7, none⟩ (.slice A5 M.length c5)) m g i s' base := by
    rw [HR.out]
    exact ⟨A5, c5, Aq, cq, by simp only [List.length_append, List.length_singleton]; exact hm6, ho6, by simp only [List.length_append, List.length_singleton]; exact hp6, hbm, Nat.le_trans hbw0 hbb6.size⟩
  clear hm5 m7b f7b hp5 hB6 hm6 hp6 ho6 ho5 hgr hat hbel hp4 ho4 m7 m9 hlb4
  go_wp2_with fail
  go_ret
  exact ⟨rfl, hfin, hbb6⟩
end Go.Proofs.YtkmhmehofipehaaDoor
/- Any parts put together: the program's Build. -/
namespace Go.Proofs.YtkmhmehofipehaaDoor
set_option linter.unusedVariables false
open Go.RowKit
def BPost (w : World) (r : Int × List UInt8) (e : Ending) (w' : World) : Prop := ∃ v, e = .returned (.tuple #[v, .int .i64 r.1]) ∧ NewB w r.2 v w'
theorem bpost_bad {w w' : World} (er : Int) (hb : Below w.heap.size w w') : BPost w (er, []) (.returned (.tuple #[.slice none 0 0, .int .i64 er])) w' := ⟨_, rfl, none, 0, rfl, own_nil _ _ _ _, hb⟩
set_option maxRecDepth 20000 in
set_option maxHeartbeats 2000000 in
theorem build_info (g : Nat) (i : InfoV) (v u : Value) (sum : Int) (w : World) (hr : i.right = false) :
    Calls Tryd.prog 10 #[.pointer (some ⟨g, 0, none⟩), i.v, v, u, .int .u32 sum] w (BPost w (32, [])) := by
  obtain ⟨k, ch, bi, ra, bl, sh⟩ := i
  unfold InfoV.v
  unfold InfoV.right at hr
  simp only at hr ⊢
  have hb : Below w.heap.size w (w.alloc (.cells #[.int .i64 k, .int .i64 ch, .int .i64 bi, .int .i64 ra, .int .i64 bl, .int .i64 sh] 25)) := (Below.refl _ w).alloc (Nat.le_refl _) _
  have hrow := heap_alloc_new w (.cells #[.int .i64 k, .int .i64 ch, .int .i64 bi, .int .i64 ra, .int .i64 bl, .int .i64 sh] 25)
  go_enter Tryd.func10, Tryd.ntmps10
  go_wp2_with fail
  refine (opened_info g k ch bi ra bl sh v _ hr).mono ?_
  rintro e w1 ⟨rfl, hb1⟩
  go_wp2_with fail
  go_ret2
  exact bpost_bad 32 (hb.trans (hb1.mono hb.size))
theorem InfoV.nats {i : InfoV} (h : i.right = true) : ∃ k ch bi ra bl sh : Nat, i = ⟨k, ch, bi, ra, bl, sh⟩ ∧ rightI k ch bi ra bl sh = true ∧ (k < 256 ∧ ch < 256 ∧ bi < 256 ∧ sh < 256 ∧ ra < 16777216 ∧ bl < 4294967296) ∧ infoB i = sealed (infoHead k ch bi sh ra bl) := by
  have hr := InfoV.range h
  obtain ⟨k, ch, bi, ra, bl, sh⟩ := i
  simp only at hr
  obtain ⟨K, rfl⟩ := Int.eq_ofNat_of_zero_le (show 0 ≤ k by omega)
  obtain ⟨C, rfl⟩ := Int.eq_ofNat_of_zero_le (show 0 ≤ ch by omega)
  obtain ⟨B, rfl⟩ := Int.eq_ofNat_of_zero_le (show 0 ≤ bi by omega)
  obtain ⟨A, rfl⟩ := Int.eq_ofNat_of_zero_le (show 0 ≤ ra by omega)
  obtain ⟨L, rfl⟩ := Int.eq_ofNat_of_zero_le (show 0 ≤ bl by omega)
  obtain ⟨S, rfl⟩ := Int.eq_ofNat_of_zero_le (show 0 ≤ sh by omega)
  exact ⟨K, C, B, A, L, S, rfl, h, by omega, rfl⟩
set_option maxRecDepth 20000 in
set_option maxHeartbeats 2000000 in
theorem build_tags (g : Nat) (i : InfoV) (A0 : Option Addr) (c0 : Nat) (l : List TagV) (u : Value) (sum : Int) (w : World) (hr : i.right = true) (ht : Tab w g) (hl : SeesT w A0 l) (hlc : l.length ≤ c0) (hlen : l.length ≤ maxLen) (hs : Brief l) (hT : Tabs w) (hz : (checkT l).2 ≠ 0) :
    Calls Tryd.prog 10 #[.pointer (some ⟨g, 0, none⟩), i.v, .slice A0 l.length c0, u, .int .u32 sum] w (BPost w ((checkT l).2, [])) := by
  obtain ⟨k, ch, bi, ra, bl, sh, rfl, hrr, hk, _⟩ := InfoV.nats hr
  unfold InfoV.v
  simp only
  have hb : Below w.heap.size w (w.alloc (.cells #[.int .i64 k, .int .i64 ch, .int .i64 bi, .int .i64 ra, .int .i64 bl, .int .i64 sh] 25)) := (Below.refl _ w).alloc (Nat.le_refl _) _
  have hrow := heap_alloc_new w (.cells #[.int .i64 k, .int .i64 ch, .int .i64 bi, .int .i64 ra, .int .i64 bl, .int .i64 sh] 25)
  have hO := hid (opened_tags g k ch bi ra bl sh A0 c0 l _ (hl.below hb) hlc hlen hs (hT.below hb) hz (ht.keep hb ht.lt) hrr hk)
  generalize (checkT l).2 = E at *
  have dE : (E != 0) = true := by simpa using hz
  clear hz hl hs hT hr hrr hk
  go_enter Tryd.func10, Tryd.ntmps10
  go_wp2_with fail
  refine hO.out.mono ?_
  rintro e w1 ⟨rfl, hb1⟩
  go_wp2_with fail
  go_ret2
  exact bpost_bad E (hb.trans (hb1.mono hb.size))
set_option maxRecDepth 20000 in
set_option maxHeartbeats 4000000 in
theorem build_all (g : Nat) (i : InfoV) (A0 : Option Addr) (c0 : Nat) (l : List TagV) (B0 : Option Addr) (d0 : Nat) (bs : List BlkV) (sum : Nat) (w : World) (hr : i.right = true) (ht : Tab w g) (hl : SeesT w A0 l) (hlc : l.length ≤ c0) (hlen : l.length ≤ maxLen) (hs : Brief l) (hT : Tabs w) (hz : (checkT l).2 = 0)
    (hk : SeesK w B0 bs) (hb12 : bs.length ≤ 12) (hb300 : ∀ x ∈ bs, x.l.length ≤ 300) (hsum : sum < 4294967296) :
    Calls Tryd.prog 10 #[.pointer (some ⟨g, 0, none⟩), i.v, .slice A0 l.length c0, .slice B0 bs.length d0, .int .u32 (sum : Int)] w (BPost w (endF (addAll i (bs.map BlkV.l) (startF i l)) sum)) := by
  have hbi : 8 ≤ i.bi ∧ i.bi ≤ 24 := (InfoV.range hr).2.2.1
  obtain ⟨R, hR⟩ : ∃ R, R = addAll i (bs.map BlkV.l) (startF i l) := ⟨_, rfl⟩
  rw [← hR]
  have hso := startF_ok i (short_of hz)
  have hsr := start_rise i l
  obtain ⟨k, ch, bi, ra, bl, sh, hi, hrr, hkk, hib⟩ := InfoV.nats hr
  have hout : (startF i l).out = sealed (infoHead k ch bi sh ra bl) ++ sealed (tagsB l) := by unfold startF; rw [hib]
  have hb : Below w.heap.size w (w.alloc (.cells #[.int .i64 k, .int .i64 ch, .int .i64 bi, .int .i64 ra, .int .i64 bl, .int .i64 sh] 25)) := (Below.refl _ w).alloc (Nat.le_refl _) _
  have hrow := heap_alloc_new w (.cells #[.int .i64 k, .int .i64 ch, .int .i64 bi, .int .i64 ra, .int .i64 bl, .int .i64 sh] 25)
  have hO := hid (opened_ok g k ch bi ra bl sh A0 c0 l _ (hl.below hb) hlc hlen hs (hT.below hb) hz (ht.keep hb ht.lt) hrr hkk (startF i l).out hout)
  have hiv : i.v = .agg #[.int .i64 k, .int .i64 ch, .int .i64 bi, .int .i64 ra, .int .i64 bl, .int .i64 sh] := by rw [hi]; rfl
  rw [hiv]
  have HRL := hid hR.symm
  have HI := hid hi
  have hpl0 : (startF i l).pl = [] := rfl
  have hcn0 : (startF i l).cnt = 0 := rfl
  have hsh0 : (startF i l).short = false := rfl
  have HS0 := hid (⟨hpl0, hcn0, hsh0⟩ : (startF i l).pl = [] ∧ (startF i l).cnt = 0 ∧ (startF i l).short = false)
  generalize startF i l = s0 at *
  clear hR hl hs hT hz hrr hkk hib hiv hout hi hpl0 hcn0 hsh0 hr
  go_enter Tryd.func10, Tryd.ntmps10
  go_wp2_with fail
  generalize hw0 : w.alloc (.cells #[.int .i64 k, .int .i64 ch, .int .i64 bi, .int .i64 ra, .int .i64 bl, .int .i64 sh] 25) = w0 at *
  clear hw0 hrow
  refine hO.out.mono ?_
  rintro e w1 ⟨m, A, c, rfl, hrow, hown, hm, hb1⟩
  have hbw1 := hb.trans (hb1.mono hb.size)
  obtain ⟨base, hbase⟩ : ∃ base, base = w0.heap.size := ⟨_, rfl⟩
  rw [← hbase] at hown hm
  have hbs : w.heap.size ≤ base := by rw [hbase]; exact hb.size
  have hM : Mkr w1 m g i s0 base := by
    obtain ⟨q1, q2, q3⟩ := HS0.out
    have hi := HI.out
    refine ⟨A, c, none, 0, ?_, hown, by rw [q1]; exact own_nil _ _ _ _, hm, by rw [hbase]; exact hb1.size⟩
    rw [q1, q2, q3, hi]
    exact hrow
  have hmw : w.heap.size ≤ m := by omega
  clear hb hb1 hown hm hrow hbase hO HS0 HI
  go_wp2_with fail
  go_loopw [15, 16, 30] (fun x y q wr => ∃ (n : Nat) (s : FileS), n ≤ bs.length ∧ q = .int .i64 n ∧ Mkr wr m g i s base ∧ s.ok n ∧ s.rise ∧ Below w.heap.size w wr ∧ Hid (addAll i ((bs.drop n).map BlkV.l) s = R)) (fun _ _ q _ => bs.length - (intOf q).toNat)
  case atStart => exact ⟨0, s0, by omega, rfl, hM, hso, hsr, hbw1, HRL⟩
  case round =>
    clear hM hbw1 HRL hso hsr
    obtain ⟨n, s, hn, rfl, hM, hso, hsr, hbw, hE⟩ := hrel
    have htr := ht.keep hbw ht.lt
    by_cases hlt : n < bs.length
    · have hd : decide (n < bs.length) = true := by simpa using hlt
      obtain ⟨a, rfl, ca⟩ := (hk.below hbw).at hlt
      obtain ⟨hx, hxc, hxm⟩ := (hk.below hbw).one hlt
      have hx0 := (hk.one hlt).1
      have hx300 := hb300 bs[n] (List.getElem_mem hlt)
      have hEn := hE.out
      rw [List.drop_eq_getElem_cons hlt, List.map_cons] at hEn
      generalize bs[n] = x at *
      obtain ⟨xA, xc, xl⟩ := x
      simp only at ca hx hxc hxm hx0 hx300 hEn
      unfold addAll at hEn
      by_cases hz : (addE i s xl).1 = 0
      · rw [if_neg (by rw [hz]; simp)] at hEn
        have hlb : 36 ≤ xl.length := by
          obtain ⟨_, h2, _, _⟩ := addE_ok hz
          have h3 := (openH_fine (addE_ok hz).1).2.2
          omega
        have hAb : ∀ b, xA = some b → b.block < base := fun b hb => Nat.lt_of_lt_of_le (Sees.lt hx0 (by intro h; have := congrArg List.length h; simp at this; rw [this] at hlb; simp at hlb) hb) hbs
        have hA := hid (madd_ok m g i s base xA xc xl wr hM htr hx hxc hxm hx300 hbi hAb n hso (by omega) hz)
        have hso2 := hso.next hx300 hz
        have hsr2 := addE_rise hsr hso (by omega) hz
        have HEN := hid hEn
        generalize (addE i s xl).2 = s2 at *
        clear hEn hz hlb hx hx0 hE hM hso hsr hAb
        go_wp2_with fail
        refine hA.out.mono ?_
        rintro e w2 ⟨rfl, hM2, hb2⟩
        have hbw2 := hbw.trans (hb2.mono hbs)
        clear hA hbw hb2
        go_wp2_with fail
        exact ⟨⟨n + 1, s2, hlt, by go_num, hM2, hso2, hsr2, hbw2, HEN⟩, by simp [intOf]; omega⟩
      · have hA := hid (madd_bad m g i s base xA xc xl wr hM htr hx hxc hxm hx300 hbi (by have := hso.pl; omega) hz)
        rw [if_pos hz] at hEn
        have HF := hid (show endF R sum = ((addE i s xl).1, []) by rw [← hEn]; unfold endF; rw [if_pos hz])
        generalize (addE i s xl).1 = E at *
        have dE : (E != 0) = true := by simpa using hz
        clear hEn hz hx hx0 hE hM hso hsr
        go_wp2_with fail
        refine hA.out.mono ?_
        rintro e w2 ⟨rfl, hb2⟩
        have hbw2 := hbw.trans (hb2.mono hbw.size)
        clear hA hbw hb2
        go_wp2_with fail
        refine bodyPost_ret (results_tmp2 rfl _ _ _) rfl ?_
        rw [HF.out]
        exact bpost_bad E hbw2
    · obtain rfl : n = bs.length := by omega
      have hd : decide (bs.length < bs.length) = false := by simp
      have hEn := hE.out
      rw [List.drop_length, List.map_nil] at hEn
      have hrt := rise_right hsr hso hb12
      have hrg := right_range hrt
      have hcn := hso.cnt
      have hon := hso.out
      have hpn := hso.pl
      obtain ⟨C, hC⟩ := Int.eq_ofNat_of_zero_le hcn.1
      have HF := hid (show endF R sum = (0, s.out ++ tailB s sum) by rw [← hEn]; rfl)
      have hT2 : tailB s sum = sealed (tailHead C sum s.pl) := by unfold tailB; rw [hC]; rfl
      rw [hC, Int.toNat_natCast] at hrt hrg
      obtain ⟨A, c, Ap, cp, hm, ho, hp, hbm, hbw0⟩ := hM
      have hpI : SeesI wr Ap s.pl := own_sees hp
      have hput := hid (fun W (hb : Below wr.heap.size wr W) => tput_ok g C sum Ap cp s.pl W (htr.keep hb htr.lt) (Sees.below hpI hb) (by omega) hrt (by omega) hsum hrg.2.2.2)
      rw [← hT2] at hput
      have hEl : (tailB s sum).length ≤ 1000 := by rw [hT2]; unfold sealed; rw [List.length_append, tailHead_len, bytesLE_length]; omega
      generalize tailB s sum = T at *
      obtain ⟨M, hMd⟩ : ∃ M, M = s.out ++ T := ⟨_, rfl⟩
      have HNL := hid (show s.out.length + T.length = M.length by rw [hMd, List.length_append])
      have HXL := hid (show s.out.map byteV ++ T.map byteV = M.map byteV by rw [hMd, List.map_append])
      rw [← hMd] at HF
      have m7 : wr.cell? ⟨m, 7, none⟩ = some (.slice A s.out.length c) := by rw [cell_of_row _ _ _ _ _ _ hm]; rfl
      have m8 : wr.cell? ⟨m, 8, none⟩ = some (.slice Ap s.pl.length cp) := by rw [cell_of_row _ _ _ _ _ _ hm]; rfl
      have m9 : wr.cell? ⟨m, 9, none⟩ = some (.int .i64 (C : Int)) := by rw [cell_of_row _ _ _ _ _ _ hm, ← hC]; rfl
      have hdr : Below wr.heap.size wr wr.drew := (Below.refl _ _).drew
      clear hMd hT2 hrt hrg hEn hE hm hC hsr hcn hk hp hpI hso hpn
      go_wp2_with fail
      go_region_held3 (fun w' => w'.cell? ⟨m, 7, none⟩ = some (.slice A s.out.length c) ∧ w'.cell? ⟨m, 8, none⟩ = some (.slice Ap s.pl.length cp) ∧ w'.cell? ⟨m, 9, none⟩ = some (.int .i64 (C : Int))) (first | exact ⟨m7, m8, m9⟩ | exact ⟨f7, f8, f9⟩ | go_keep)
        (first | (go_at_call 20; refine (hput.out _ hdr).mono ?_; rintro e w2 ⟨v, rfl, hv⟩; obtain ⟨A2, c2, rfl, hs2, hA2, ho2, hb2⟩ := hv.parts; have f7 := keep1 hb2 m7; have f8 := keep1 hb2 m8; have f9 := keep1 hb2 m9))
      have hb2' : Below wr.heap.size wr w2 := undrewF hb2
      have hbw2 := hbw.trans (hb2'.mono hbw.size)
      have hown2 := own_keepF ho hb2'
      have hbs2 : base ≤ w2.heap.size := Nat.le_trans hbw0 hb2'.size
      clear hb2 hb2' ho hv ho2 hA2 m7 m8 m9 f8 f9 hbw htr hdr hput
      go_wp2_with (at_builtin; refine wpList_app rfl (.tmp 62) (.tmp 63) _ rfl elB rfl hown2 A2 T.length c2 rfl _ hs2 (by simp) (byte_one _) M.length HNL.out _ HXL.out (by have := HNL.out; unfold maxLen; omega) (by have := HNL.out; omega) hbs2 ?_; intro A3 c3 w3 hown3 hgr hat hbel)
      refine bodyPost_ret (results_tmp2 rfl _ _ _) rfl ?_
      rw [HF.out]
      exact ⟨_, rfl, A3, c3, rfl, Joins.ownsRow_le hown3 hbs, hbw2.trans (hbel.mono hbs)⟩
theorem build_any (g : Nat) (i : InfoV) (A0 : Option Addr) (c0 : Nat) (l : List TagV) (B0 : Option Addr) (d0 : Nat) (bs : List BlkV) (sum : Nat) (w : World) (ht : Tab w g) (hl : SeesT w A0 l) (hlc : l.length ≤ c0) (hlen : l.length ≤ maxLen) (hs : Brief l) (hT : Tabs w)
    (hk : SeesK w B0 bs) (hb12 : bs.length ≤ 12) (hb300 : ∀ x ∈ bs, x.l.length ≤ 300) (hsum : sum < 4294967296) :
    Calls Tryd.prog 10 #[.pointer (some ⟨g, 0, none⟩), i.v, .slice A0 l.length c0, .slice B0 bs.length d0, .int .u32 (sum : Int)] w (BPost w (buildF i l (bs.map BlkV.l) sum)) := by
  cases hr : i.right with
  | false =>
    rw [show buildF i l (bs.map BlkV.l) sum = (32, []) by unfold buildF; rw [if_pos hr]]
    exact build_info g i _ _ _ w hr
  | true =>
    by_cases hz : (checkT l).2 = 0
    · rw [show buildF i l (bs.map BlkV.l) sum = endF (addAll i (bs.map BlkV.l) (startF i l)) sum by unfold buildF; rw [if_neg (by rw [hr]; simp), if_neg (by rw [hz]; simp)]]
      exact build_all g i A0 c0 l B0 d0 bs sum w hr ht hl hlc hlen hs hT hz hk hb12 hb300 hsum
    · rw [show buildF i l (bs.map BlkV.l) sum = ((checkT l).2, []) by unfold buildF; rw [if_neg (by rw [hr]; simp), if_pos hz]]
      exact build_tags g i A0 c0 l _ _ w hr ht hl hlc hlen hs hT hz
end Go.Proofs.YtkmhmehofipehaaDoor
/- What a reader has not read. -/
namespace Go.Proofs.YtkmhmehofipehaaDoor
set_option linter.unusedVariables false
open Go.RowKit
def RestPost (w : World) (l : List UInt8) (e : Ending) (w' : World) : Prop :=
  ∃ (A : Option Addr) (c : Nat), e = .returned (.slice A l.length c) ∧ SeesB w' A l ∧ l.length ≤ c ∧ c ≤ maxLen ∧ Below w.heap.size w w'
set_option maxRecDepth 20000 in
set_option maxHeartbeats 2000000 in
theorem rest_any (m : Nat) (cs : Array Value) (t : TypeId) (A : Option Addr) (c p : Nat) (l : List UInt8) (w : World) (hm : w.heap[m]? = some (.cells cs t (0, 0))) (h11 : cs[11]? = some (.slice A l.length c)) (h12 : cs[12]? = some (.int .i64 (p : Int))) (hl : SeesB w A l) (hc : l.length ≤ c) (hcm : c ≤ maxLen) (hp : p ≤ l.length) :
    Calls Tryd.prog 30 #[.pointer (some ⟨m, 0, none⟩)] w (RestPost w (l.drop p)) := by
  have c11 : w.cell? ⟨m, 11, none⟩ = some (.slice A l.length c) := by rw [cell_of_row _ _ _ _ _ _ hm]; exact h11
  have c12 : w.cell? ⟨m, 12, none⟩ = some (.int .i64 (p : Int)) := by rw [cell_of_row _ _ _ _ _ _ hm]; exact h12
  have b0 : 0 ≤ (p : Int) := by omega
  have b1 : (p : Int) ≤ l.length := by omega
  have b2 : (l.length : Int) ≤ c := by omega
  have hdl : (l.drop p).length = l.length - p := List.length_drop
  clear hm h11 h12
  go_enter Tryd.func30, Tryd.ntmps30
  go_wp2_with fail
  go_quiet (fail)
  have hs : SeesB w (if c = p then A else A.map (·.add p)) (l.drop p) := by
    by_cases h : c = p
    · rw [if_pos h, List.drop_eq_nil_of_le (by omega)]; exact Sees.nil _ _
    · rw [if_neg h]
      have := SeesB.cutTo hl p l.length
      rwa [List.take_of_length_le (by rw [hdl]; omega)] at this
  have hfin : RestPost w (l.drop p) (.returned (.slice (if c = p then A else A.map (·.add p)) (l.length - p) (c - p))) (w.drewN nq) :=
    ⟨_, _, by rw [hdl], hs, by rw [hdl]; omega, by omega, ⟨rfl, rfl, rfl, Nat.le_refl _, fun _ _ => rfl⟩⟩
  clear hs hl
  generalize (if c = p then A else Option.map (fun x => x.add p) A) = Z at *
  go_wp2_with fail
  go_ret
  exact hfin
end Go.Proofs.YtkmhmehofipehaaDoor
