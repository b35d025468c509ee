/- A block put behind the others. -/
import Derived.Test.YtkmhmehofipehaaDoorFileBuildsM27
namespace Go.Proofs.YtkmhmehofipehaaDoor
set_option linter.unusedVariables false
open Go.RowKit
/-- rows of unlike cells do not share a block -/
theorem own_apart {w : World} {base base' size size' n n' : Nat} {e e' : TypeId} {v v' : Value} {xs xs' : List Value} (h : w.ownsRow base e size v n xs) (h' : w.ownsRow base' e' size' v' n' xs') (hne : e ≠ e') (k : Nat) (hk : v.ownBlock = some k) : v'.ownBlock ≠ some k := by
  rcases h.2 with ⟨rfl, _⟩ | ⟨g, cap, cur, rfl, hb, hg, _⟩
  · simp [Value.ownBlock] at hk
  · simp [Value.ownBlock] at hk
    subst hk
    exact own_other h' hg (Ne.symm hne)
theorem SeesB.farB {w w' : World} {A : Option Addr} {l : List UInt8} {B : Nat} (h : SeesB w A l) (hA : ∀ a, A = some a → a.block < B) (hb : Below B w w') : SeesB w' A l := by
  intro i v hv
  obtain ⟨a, ha, hc⟩ := h i v hv
  exact ⟨a, ha, (World.cell?_of_block (w := w) (hb.block _ (by rw [addr_block]; exact hA a ha))).trans hc⟩
def MkrRow (g : Nat) (i : InfoV) (A : Option Addr) (n c : Nat) (Ap : Option Addr) (np cp : Nat) (cnt : Int) (short : Bool) : Array Value :=
  #[.pointer (some ⟨g, 0, none⟩), .int .i64 i.k, .int .i64 i.ch, .int .i64 i.bi, .int .i64 i.ra, .int .i64 i.bl, .int .i64 i.sh, .slice A n c, .slice Ap np cp, .int .i64 cnt, .bool short]
/-- block m is a file on its way -/
def Mkr (w : World) (m g : Nat) (i : InfoV) (s : FileS) (base : Nat) : Prop :=
  ∃ (A : Option Addr) (c : Nat) (Ap : Option Addr) (cp : Nat), w.heap[m]? = some (.cells (MkrRow g i A s.out.length c Ap s.pl.length cp s.cnt s.short) 70 (0, 0)) ∧ w.ownsRow base 5 1 (.slice A s.out.length c) s.out.length (s.out.map byteV) ∧
    w.ownsRow base 3 1 (.slice Ap s.pl.length cp) s.pl.length (s.pl.map intV) ∧ base ≤ m ∧ base ≤ w.heap.size
theorem Mkr.below {w w' : World} {m g : Nat} {i : InfoV} {s : FileS} {base : Nat} (h : Mkr w m g i s base) (hb : Below w.heap.size w w') : Mkr w' m g i s base := by
  obtain ⟨A, c, Ap, cp, hm, ho, hp, h1, h2⟩ := h
  exact ⟨A, c, Ap, cp, (hb.block m (Array.getElem?_eq_some_iff.1 hm).1).trans hm, own_keepF ho hb, own_keepF hp hb, h1, Nat.le_trans h2 hb.size⟩
set_option maxRecDepth 20000 in
set_option maxHeartbeats 4000000 in
theorem madd_bad (m g : Nat) (i : InfoV) (s : FileS) (base : Nat) (A0 : Option Addr) (c0 : Nat) (b : List UInt8) (w : World) (hM : Mkr w m g i s base) (ht : Tab w g) (hl : SeesB w A0 b) (hc : b.length ≤ c0) (hcm : c0 ≤ maxLen) (hb300 : b.length ≤ 300) (hbi : 8 ≤ i.bi ∧ i.bi ≤ 24) (hs : s.pl.length ≤ 1000) (hE : (addE i s b).1 ≠ 0) :
    Calls Tryd.prog 19 #[.pointer (some ⟨m, 0, none⟩), .slice A0 b.length c0] w fun e w' => e = .returned (.int .i64 (addE i s b).1) ∧ Below w.heap.size w w' := by
  obtain ⟨A, c, Ap, cp, hm, ho, hp, hbm, hbw0⟩ := hM
  have hO := hopen_any g A0 c0 b w hl hc hcm (by omega) ht
  obtain ⟨⟨E, h, P, S⟩, hr⟩ : ∃ r, openH b = r := ⟨_, rfl⟩
  rw [hr] at hO
  obtain ⟨R, hR⟩ : ∃ R, R = (addE i s b).1 := ⟨_, rfl⟩
  rw [← hR] at hE ⊢
  have hfine : E = 0 → rightH h.k h.idx h.len h.stp h.bnd h.lst h.lnk h.siz = true ∧ 36 + h.siz ≤ b.length ∧ 0 ≤ h.siz := fun h0 => by
    have h1 := openH_fine (b := b) (by rw [hr]; exact h0)
    rw [hr] at h1
    exact ⟨h1.2.1, h1.1, h1.2.2⟩
  unfold addE at hR
  rw [hr] at hR
  simp only at hR
  have dR : (R != 0) = true := by simpa using hE
  by_cases hz : E = 0
  case neg =>
    rw [if_pos hz] at hR
    simp only at hR
    have dE : (E != 0) = true := by simpa using hz
    subst hR
    clear hfine hr hz
    obtain ⟨hk, hidx, hlen, hstp, hbnd, hlst, hlnk, hsiz⟩ := h
    unfold OpenPost HeadV.cells at hO
    simp only at hO
    have HO := hid hO
    have m0 : w.cell? ⟨m, 0, none⟩ = some (.pointer (some ⟨g, 0, none⟩)) := by rw [cell_of_row _ _ _ _ _ _ hm]; rfl
    clear hO ht hl
    go_enter Tryd.func19, Tryd.ntmps19
    go_wp2_with fail
    refine HO.out.mono ?_
    rintro e w1 ⟨A1, c1, rfl, _, _, _, hb1⟩
    have hm1 := (hb1.block m (Array.getElem?_eq_some_iff.1 hm).1).trans hm
    have hba := (Below.refl w1.heap.size w1).alloc (Nat.le_refl _) (.cells #[.int .i64 hk, .int .i64 hidx, .int .i64 hlen, .int .i64 hstp, .int .i64 hbnd, .bool hlst, .int .u32 hlnk, .int .i64 hsiz] 52)
    have hrow := heap_alloc_new w1 (.cells #[.int .i64 hk, .int .i64 hidx, .int .i64 hlen, .int .i64 hstp, .int .i64 hbnd, .bool hlst, .int .u32 hlnk, .int .i64 hsiz] 52)
    have hmA := (hba.block m (Array.getElem?_eq_some_iff.1 hm1).1).trans hm1
    have hbwA := hb1.trans (hba.mono hb1.size)
    clear m0 hm1 hba HO
    clear hrow hmA
    go_wp2_with fail
    go_ret
    exact ⟨rfl, hbwA⟩
  rw [if_neg (by rw [hz]; simp)] at hR
  subst hz
  obtain ⟨hrt, hsz, hs0⟩ := hfine rfl
  clear hfine hr
  obtain ⟨nE, hnE⟩ : ∃ nE, nE = nextE i h s.pl.length s.short := ⟨_, rfl⟩
  have hbad := fun W cs (hm : W.heap[m]? = some (.cells cs 70 (0, 0))) h1 h2 h3 h4 h5 h6 h8 h10 hq => mnext_bad m cs 70 i h (s.out.length : Int) s.pl.length cp Ap s.short W hbi hm h1 h2 h3 h4 h5 h6 h8 h10 hq
  rw [← hnE] at hR hbad
  have hlg := fun W => hlong_any h.k h.idx h.len h.stp h.bnd h.lst h.lnk h.siz W
  unfold longH at hlg
  rw [if_pos hrt] at hlg
  have HLG := hid hlg
  have HR := hid hR
  have HBAD := hid hbad
  clear hlg hrt hR hbad hnE
  obtain ⟨hk, hidx, hlen, hstp, hbnd, hlst, hlnk, hsiz⟩ := h
  unfold OpenPost HeadV.cells at hO
  simp only at hO
  have HO := hid hO
  have m0 : w.cell? ⟨m, 0, none⟩ = some (.pointer (some ⟨g, 0, none⟩)) := by rw [cell_of_row _ _ _ _ _ _ hm]; rfl
  clear hO ht hl
  go_enter Tryd.func19, Tryd.ntmps19
  go_wp2_with fail
  refine HO.out.mono ?_
  rintro e w1 ⟨A1, c1, rfl, _, _, _, hb1⟩
  have hm1 := (hb1.block m (Array.getElem?_eq_some_iff.1 hm).1).trans hm
  have hba := (Below.refl w1.heap.size w1).alloc (Nat.le_refl _) (.cells #[.int .i64 hk, .int .i64 hidx, .int .i64 hlen, .int .i64 hstp, .int .i64 hbnd, .bool hlst, .int .u32 hlnk, .int .i64 hsiz] 52)
  have hrow := heap_alloc_new w1 (.cells #[.int .i64 hk, .int .i64 hidx, .int .i64 hlen, .int .i64 hstp, .int .i64 hbnd, .bool hlst, .int .u32 hlnk, .int .i64 hsiz] 52)
  have hmA := (hba.block m (Array.getElem?_eq_some_iff.1 hm1).1).trans hm1
  have hbwA := hb1.trans (hba.mono hb1.size)
  clear m0 hm1 hba HO
  (try simp only at HLG)
  (try simp only at HR)
  (try simp only at hsz hs0)
  unfold HeadV.v at HBAD
  (try simp only at HBAD)
  go_wp2_with fail
  generalize w1.alloc (.cells #[.int .i64 hk, .int .i64 hidx, .int .i64 hlen, .int .i64 hstp, .int .i64 hbnd, .bool hlst, .int .u32 hlnk, .int .i64 hsiz] 52) = w2 at *
  generalize w1.heap.size = gh at *
  have e0 : w2.cell? ⟨gh, 0, none⟩ = some (.int .i64 hk) := by rw [cell_of_row _ _ _ _ _ _ hrow]; rfl
  have e1 : w2.cell? ⟨gh, 1, none⟩ = some (.int .i64 hidx) := by rw [cell_of_row _ _ _ _ _ _ hrow]; rfl
  have e2 : w2.cell? ⟨gh, 2, none⟩ = some (.int .i64 hlen) := by rw [cell_of_row _ _ _ _ _ _ hrow]; rfl
  have e3 : w2.cell? ⟨gh, 3, none⟩ = some (.int .i64 hstp) := by rw [cell_of_row _ _ _ _ _ _ hrow]; rfl
  have e4 : w2.cell? ⟨gh, 4, none⟩ = some (.int .i64 hbnd) := by rw [cell_of_row _ _ _ _ _ _ hrow]; rfl
  have e5 : w2.cell? ⟨gh, 5, none⟩ = some (.bool hlst) := by rw [cell_of_row _ _ _ _ _ _ hrow]; rfl
  have e6 : w2.cell? ⟨gh, 6, none⟩ = some (.int .u32 hlnk) := by rw [cell_of_row _ _ _ _ _ _ hrow]; rfl
  have e7 : w2.cell? ⟨gh, 7, none⟩ = some (.int .i64 hsiz) := by rw [cell_of_row _ _ _ _ _ _ hrow]; rfl
  refine (HLG.out w2).mono ?_
  rintro e w3 ⟨rfl, hb3⟩
  have hm3 := (hb3.block m (Array.getElem?_eq_some_iff.1 hmA).1).trans hmA
  have hbw3 := hbwA.trans (hb3.mono hbwA.size)
  clear HLG hmA hbwA hrow
  replace e0 := keep1 hb3 e0
  replace e1 := keep1 hb3 e1
  replace e2 := keep1 hb3 e2
  replace e3 := keep1 hb3 e3
  replace e4 := keep1 hb3 e4
  replace e5 := keep1 hb3 e5
  replace e6 := keep1 hb3 e6
  replace e7 := keep1 hb3 e7
  clear hb3
  by_cases hlong : (36 + hsiz : Int) < b.length
  · have d3 : decide (36 + hsiz < (b.length : Int)) = true := decide_eq_true hlong
    obtain rfl : R = 62 := by rw [HR.out, if_pos hlong]
    clear HR hlong
    go_wp2_with fail
    go_ret
    exact ⟨rfl, hbw3⟩
  have d3 : decide (36 + hsiz < (b.length : Int)) = false := decide_eq_false hlong
  have hRn : R = nE := by
    have h1 := HR.out
    rw [if_neg hlong] at h1
    by_cases hn : nE = 0
    · rw [if_neg (by rw [hn]; simp)] at h1; exact absurd h1 hE
    · rw [if_pos hn] at h1; exact h1
  subst hRn
  have hnx := hid (fun W hm => HBAD.out W (MkrRow g i A s.out.length c Ap s.pl.length cp s.cnt s.short) hm rfl rfl rfl rfl rfl rfl rfl rfl hE)
  have m7 : w3.cell? ⟨m, 7, none⟩ = some (.slice A s.out.length c) := by rw [cell_of_row _ _ _ _ _ _ hm3]; rfl
  clear HR hlong HBAD hE
  go_wp2_with fail
  go_region_held3 (fun w' => w'.cell? ⟨gh, 0, none⟩ = some (.int .i64 hk) ∧ w'.cell? ⟨gh, 1, none⟩ = some (.int .i64 hidx) ∧ w'.cell? ⟨gh, 2, none⟩ = some (.int .i64 hlen) ∧ w'.cell? ⟨gh, 3, none⟩ = some (.int .i64 hstp) ∧ w'.cell? ⟨gh, 4, none⟩ = some (.int .i64 hbnd) ∧ w'.cell? ⟨gh, 5, none⟩ = some (.bool hlst) ∧ w'.cell? ⟨gh, 6, none⟩ = some (.int .u32 hlnk) ∧ w'.cell? ⟨gh, 7, none⟩ = some (.int .i64 hsiz) ∧ w'.cell? ⟨m, 7, none⟩ = some (.slice A s.out.length c))
    (first | exact ⟨e0, e1, e2, e3, e4, e5, e6, e7, m7⟩ | exact ⟨k0, k1, k2, k3, k4, k5, k6, k7, n7⟩ | go_keep)
    (first | (go_at_call 43; refine (hnx.out _ ?_).mono ?_; exact hm3; rintro e w4 ⟨rfl, hb4⟩; have k0 := keep1 hb4 e0; have k1 := keep1 hb4 e1; have k2 := keep1 hb4 e2; have k3 := keep1 hb4 e3; have k4 := keep1 hb4 e4; have k5 := keep1 hb4 e5; have k6 := keep1 hb4 e6; have k7 := keep1 hb4 e7; have n7 := keep1 hb4 m7))
  have hbw4 := hbw3.trans ((undrewF hb4).mono hbw3.size)
  clear hb4 e0 k0 e1 k1 e2 k2 e3 k3 e4 k4 e5 k5 e6 k6 e7 k7 m7 n7 hnx hm3
  go_wp2_with fail
  go_ret
  exact ⟨rfl, hbw4⟩
set_option maxRecDepth 20000 in
set_option maxHeartbeats 4000000 in
theorem madd_ok (m g : Nat) (i : InfoV) (s : FileS) (base : Nat) (A0 : Option Addr) (c0 : Nat) (b : List UInt8) (w : World) (hM : Mkr w m g i s base) (ht : Tab w g) (hl : SeesB w A0 b) (hc : b.length ≤ c0) (hcm : c0 ≤ maxLen) (hb300 : b.length ≤ 300) (hbi : 8 ≤ i.bi ∧ i.bi ≤ 24) (hAb : ∀ a, A0 = some a → a.block < base) (n : Nat) (hs : s.ok n) (hn : n ≤ 12) (hE : (addE i s b).1 = 0) :
    Calls Tryd.prog 19 #[.pointer (some ⟨m, 0, none⟩), .slice A0 b.length c0] w fun e w' => e = .returned (.int .i64 0) ∧ Mkr w' m g i (addE i s b).2 base ∧ Below base w w' := by
  obtain ⟨A, c, Ap, cp, hm, ho, hp, hbm, hbw0⟩ := hM
  have hO := hopen_any g A0 c0 b w hl hc hcm (by omega) ht
  obtain ⟨⟨E, h, P, S⟩, hr⟩ : ∃ r, openH b = r := ⟨_, rfl⟩
  rw [hr] at hO
  obtain ⟨hz, hbl, hnx, hR⟩ := addE_ok hE
  have hfine := openH_fine hz
  have hlens := openH_len hz
  obtain ⟨s', hs'⟩ : ∃ s', s' = (addE i s b).2 := ⟨_, rfl⟩
  rw [← hs'] at hR ⊢
  rw [hr] at hz hbl hnx hR hfine hlens
  simp only at hz hbl hnx hR hfine hlens
  subst hz
  obtain ⟨hsz, hrt, hs0⟩ := hfine
  have hcn := hs.cnt
  have hon := hs.out
  have hpn := hs.pl
  have hok := fun W cs (hm : W.heap[m]? = some (.cells cs 70 (0, 0))) h1 h2 h3 h4 h5 h6 h8 h10 h9 (hown : W.ownsRow base 3 1 (.slice Ap s.pl.length cp) s.pl.length (s.pl.map intV)) (hbase : base ≤ W.heap.size) => mnext_ok m cs 70 i h (s.out.length : Int) s.pl.length cp Ap s.short W hbi hm h1 h2 h3 h4 h5 h6 h8 h10 s.cnt h9 base s.pl rfl hown hbase (by decide) (by omega) (by omega) (by omega) hnx
  have hlg := fun W => hlong_any h.k h.idx h.len h.stp h.bnd h.lst h.lnk h.siz W
  unfold longH at hlg
  rw [if_pos hrt] at hlg
  have HLG := hid hlg
  have HOK := hid hok
  have HR := hid hR
  have HP := hid hp
  have HOO := hid ho
  have HL := hid hl
  have HQ := hid (show ∀ bb, (bb = m ∨ (Value.slice Ap s.pl.length cp).ownBlock = some bb) → bb < w.heap.size from fun bb hh => by
    rcases hh with hh | hh
    · have := (Array.getElem?_eq_some_iff.1 hm).1; omega
    · exact own_lt hp hh)
  clear hlg hrt hR hok hnx hs' hr hE hp ho
  obtain ⟨hk, hidx, hlen, hstp, hbnd, hlst, hlnk, hsiz⟩ := h
  unfold OpenPost HeadV.cells at hO
  simp only at hO
  have HO := hid hO
  have m0 : w.cell? ⟨m, 0, none⟩ = some (.pointer (some ⟨g, 0, none⟩)) := by rw [cell_of_row _ _ _ _ _ _ hm]; rfl
  clear hO ht hl
  go_enter Tryd.func19, Tryd.ntmps19
  go_wp2_with fail
  refine HO.out.mono ?_
  rintro e w1 ⟨A1, c1, rfl, _, _, _, hb1⟩
  have hm1 := (hb1.block m (Array.getElem?_eq_some_iff.1 hm).1).trans hm
  have hba := (Below.refl w1.heap.size w1).alloc (Nat.le_refl _) (.cells #[.int .i64 hk, .int .i64 hidx, .int .i64 hlen, .int .i64 hstp, .int .i64 hbnd, .bool hlst, .int .u32 hlnk, .int .i64 hsiz] 52)
  have hrow := heap_alloc_new w1 (.cells #[.int .i64 hk, .int .i64 hidx, .int .i64 hlen, .int .i64 hstp, .int .i64 hbnd, .bool hlst, .int .u32 hlnk, .int .i64 hsiz] 52)
  have hmA := (hba.block m (Array.getElem?_eq_some_iff.1 hm1).1).trans hm1
  have hbwA := hb1.trans (hba.mono hb1.size)
  clear m0 hm1 hba HO
  (try simp only at HLG)
  (try simp only at HR)
  (try simp only at hsz hs0 hlens hbl)
  unfold HeadV.v at HOK
  (try simp only at HOK)
  have hbwA1 : w.heap.size ≤ w1.heap.size := hb1.size
  go_wp2_with fail
  generalize w1.alloc (.cells #[.int .i64 hk, .int .i64 hidx, .int .i64 hlen, .int .i64 hstp, .int .i64 hbnd, .bool hlst, .int .u32 hlnk, .int .i64 hsiz] 52) = w2 at *
  generalize w1.heap.size = gh at *
  have e0 : w2.cell? ⟨gh, 0, none⟩ = some (.int .i64 hk) := by rw [cell_of_row _ _ _ _ _ _ hrow]; rfl
  have e1 : w2.cell? ⟨gh, 1, none⟩ = some (.int .i64 hidx) := by rw [cell_of_row _ _ _ _ _ _ hrow]; rfl
  have e2 : w2.cell? ⟨gh, 2, none⟩ = some (.int .i64 hlen) := by rw [cell_of_row _ _ _ _ _ _ hrow]; rfl
  have e3 : w2.cell? ⟨gh, 3, none⟩ = some (.int .i64 hstp) := by rw [cell_of_row _ _ _ _ _ _ hrow]; rfl
  have e4 : w2.cell? ⟨gh, 4, none⟩ = some (.int .i64 hbnd) := by rw [cell_of_row _ _ _ _ _ _ hrow]; rfl
  have e5 : w2.cell? ⟨gh, 5, none⟩ = some (.bool hlst) := by rw [cell_of_row _ _ _ _ _ _ hrow]; rfl
  have e6 : w2.cell? ⟨gh, 6, none⟩ = some (.int .u32 hlnk) := by rw [cell_of_row _ _ _ _ _ _ hrow]; rfl
  have e7 : w2.cell? ⟨gh, 7, none⟩ = some (.int .i64 hsiz) := by rw [cell_of_row _ _ _ _ _ _ hrow]; rfl
  refine (HLG.out w2).mono ?_
  rintro e w3 ⟨rfl, hb3⟩
  have hm3 := (hb3.block m (Array.getElem?_eq_some_iff.1 hmA).1).trans hmA
  have hbw3 := hbwA.trans (hb3.mono hbwA.size)
  have hrow3 := (hb3.block gh (Array.getElem?_eq_some_iff.1 hrow).1).trans hrow
  clear HLG hmA hbwA hrow
  replace e0 := keep1 hb3 e0
  replace e1 := keep1 hb3 e1
  replace e2 := keep1 hb3 e2
  replace e3 := keep1 hb3 e3
  replace e4 := keep1 hb3 e4
  replace e5 := keep1 hb3 e5
  replace e6 := keep1 hb3 e6
  replace e7 := keep1 hb3 e7
  clear hb3
  have d3 : decide (36 + hsiz < (b.length : Int)) = false := decide_eq_false (by omega)
  have m7 : w3.cell? ⟨m, 7, none⟩ = some (.slice A s.out.length c) := by rw [cell_of_row _ _ _ _ _ _ hm3]; rfl
  have hp3 := own_keepF HP.out hbw3
  have ho3 := own_keepF HOO.out hbw3
  have hbs3 : base ≤ w3.heap.size := Nat.le_trans hbw0 hbw3.size
  have hnx := hid (fun W (hb : Below w3.heap.size w3 W) => HOK.out W (MkrRow g i A s.out.length c Ap s.pl.length cp s.cnt s.short) ((hb.block m (Array.getElem?_eq_some_iff.1 hm3).1).trans hm3) rfl rfl rfl rfl rfl rfl rfl rfl rfl (own_keepF hp3 hb) (Nat.le_trans hbs3 hb.size))
  clear HOK HP HOO
  have hdr : Below w3.heap.size w3 w3.drew := (Below.refl _ _).drew
  have HM3 := hid hm3
  have HP3 := hid hp3
  have HO3 := hid ho3
  have hglt : gh < w3.heap.size := (Array.getElem?_eq_some_iff.1 hrow3).1
  clear hm3 hp3 ho3
  go_wp2_with fail
  go_region_held3 (fun w' => w'.cell? ⟨gh, 0, none⟩ = some (.int .i64 hk) ∧ w'.cell? ⟨gh, 1, none⟩ = some (.int .i64 hidx) ∧ w'.cell? ⟨gh, 2, none⟩ = some (.int .i64 hlen) ∧ w'.cell? ⟨gh, 3, none⟩ = some (.int .i64 hstp) ∧ w'.cell? ⟨gh, 4, none⟩ = some (.int .i64 hbnd) ∧ w'.cell? ⟨gh, 5, none⟩ = some (.bool hlst) ∧ w'.cell? ⟨gh, 6, none⟩ = some (.int .u32 hlnk) ∧ w'.cell? ⟨gh, 7, none⟩ = some (.int .i64 hsiz) ∧ w'.cell? ⟨m, 7, none⟩ = some (.slice A s.out.length c))
    (first | exact ⟨e0, e1, e2, e3, e4, e5, e6, e7, m7⟩ | exact ⟨k0, k1, k2, k3, k4, k5, k6, k7, n7⟩ | go_keep)
    (first | (go_at_call 43; refine (hnx.out _ hdr).mono ?_; rintro e w4 ⟨rfl, Aq, cq, hm4, hp4, hB4⟩; have hrow4 := (hB4.block gh hglt (fun h => by have := HQ.out gh h; omega)).trans hrow3; have k0 : w4.cell? ⟨gh, 0, none⟩ = some (.int .i64 hk) := (by rw [cell_of_row _ _ _ _ _ _ hrow4]; rfl); have k1 : w4.cell? ⟨gh, 1, none⟩ = some (.int .i64 hidx) := (by rw [cell_of_row _ _ _ _ _ _ hrow4]; rfl); have k2 : w4.cell? ⟨gh, 2, none⟩ = some (.int .i64 hlen) := (by rw [cell_of_row _ _ _ _ _ _ hrow4]; rfl); have k3 : w4.cell? ⟨gh, 3, none⟩ = some (.int .i64 hstp) := (by rw [cell_of_row _ _ _ _ _ _ hrow4]; rfl); have k4 : w4.cell? ⟨gh, 4, none⟩ = some (.int .i64 hbnd) := (by rw [cell_of_row _ _ _ _ _ _ hrow4]; rfl); have k5 : w4.cell? ⟨gh, 5, none⟩ = some (.bool hlst) := (by rw [cell_of_row _ _ _ _ _ _ hrow4]; rfl); have k6 : w4.cell? ⟨gh, 6, none⟩ = some (.int .u32 hlnk) := (by rw [cell_of_row _ _ _ _ _ _ hrow4]; rfl); have k7 : w4.cell? ⟨gh, 7, none⟩ = some (.int .i64 hsiz) := (by rw [cell_of_row _ _ _ _ _ _ hrow4]; rfl); have n7 : w4.cell? ⟨m, 7, none⟩ = some (.slice A s.out.length c) := (by rw [cell_of_row _ _ _ _ _ _ hm4]; rfl)))
  have hB4' : But (fun b => b = m ∨ (Value.slice Ap s.pl.length cp).ownBlock = some b) w3 w4 := (But.of_below hdr).trans hB4 (fun n h => .inl h)
  have hm4' : w4.heap[m]? = some (.cells (MkrRow g i A s.out.length c Aq (s.pl.length + 1) cq (s.cnt + hlen) (decide (hlen < i.bl))) 70 (0, 0)) := hm4
  have hR3 : ∀ bb, (bb = m ∨ (Value.slice Ap s.pl.length cp).ownBlock = some bb) → base ≤ bb := fun bb hh => by
    rcases hh with hh | hh
    · omega
    · exact own_base HP3.out hh
  have hbb4 := But.below (hbw3.mono hbw0) hB4' hR3 hbs3
  have ho4 := own_but HO3.out hB4' (fun k hk hh => by
    rcases hh with hh | hh
    · exact own_other HO3.out HM3.out (by decide) (by rw [← hh]; exact hk)
    · exact own_apart HO3.out HP3.out (by decide) k hk hh)
  have hlb4 := SeesB.farB HL.out hAb hbb4
  clear e0 k0 e1 k1 e2 k2 e3 k3 e4 k4 e5 k5 e6 k6 e7 k7 m7 n7 hnx hm4 hB4 HQ HL HP3 HO3 HM3 hrow3 hrow4 hR3 hB4' hdr
  have m9 : w4.cell? ⟨m, 9, none⟩ = some (.int .i64 (s.cnt + hlen)) := by rw [cell_of_row _ _ _ _ _ _ hm4']; rfl
  have m7 : w4.cell? ⟨m, 7, none⟩ = some (.slice A s.out.length c) := by rw [cell_of_row _ _ _ _ _ _ hm4']; rfl
  have d9 : decide (4294967295 < s.cnt + hlen) = false := decide_eq_false (by omega)
  have hbs4 : base ≤ w4.heap.size := Nat.le_trans hbw0 hbb4.size
  obtain ⟨M, hM⟩ : ∃ M, M = s.out ++ b := ⟨_, rfl⟩
  have HNL := hid (show s.out.length + b.length = M.length by rw [hM, List.length_append])
  have HXL := hid (show s.out.map byteV ++ b.map byteV = M.map byteV by rw [hM, List.map_append])
  rw [← hM] at HR
  clear hM
  have HM4 := hid hm4'
  have hml4 := (Array.getElem?_eq_some_iff.1 hm4').1
  clear hm4'
  go_wp2_with (at_builtin; refine wpList_app rfl (.tmp 51) (.tmp 52) _ rfl elB rfl ho4 A0 b.length c0 rfl _ hlb4 (by simp) (byte_one _) M.length HNL.out _ HXL.out (by have := HNL.out; unfold maxLen; omega) (by have := HNL.out; omega) hbs4 ?_; intro A5 c5 w5 ho5 hgr hat hbel; have hm5 := (hgr.block m hml4 (fun hh => own_other ho4 HM4.out (by decide) hh.symm)).trans HM4.out; have m7b : w5.cell? ⟨m, 7, none⟩ = some (.slice A s.out.length c) := (by rw [cell_of_row _ _ _ _ _ _ hm5]; rfl); have f7b : w5.frozen? ⟨m, 7, none⟩ = false := frozen_of_row _ _ _ _ _ hm5)
  have hp5 := own_but hp4 (But.of_grown hgr hbel) (fun k hk hh => own_apart hp4 ho4 (by decide) k hk hh)
  have hB6 : But (Only m) w5 (w5.setCell ⟨m, 7, none⟩ (.slice A5 M.length c5)) := ⟨rfl, rfl, rfl, by simp [World.setCell], fun b _ hb => heap_setCell_other w5 _ b _ (fun h => hb h)⟩
  have hm6 := heap_setCell_same w5 m 7 _ _ (.slice A5 M.length c5) hm5
  have hp6 := own_but hp5 hB6 (fun k hk hh => own_other hp5 hm5 (by decide) (by have h2 : k = m := hh; rw [← h2]; exact hk))
  have ho6 := own_but ho5 hB6 (fun k hk hh => own_other ho5 hm5 (by decide) (by have h2 : k = m := hh; rw [← h2]; exact hk))
  have hbb5 := hbb4.trans hbel
  have hbb6 := But.below hbb5 hB6 (fun bb hh => by have h2 : bb = m := hh; omega) (Nat.le_trans hbw0 hbb5.size)
  have hfin : Mkr (w5.setCell ⟨m, 7, none⟩ (.slice A5 M.length c5)) m g i s' base := by
    rw [HR.out]
    exact ⟨A5, c5, Aq, cq, by simp only [List.length_append, List.length_singleton]; exact hm6, ho6, by simp only [List.length_append, List.length_singleton]; exact hp6, hbm, Nat.le_trans hbw0 hbb6.size⟩
  clear hm5 m7b f7b hp5 hB6 hm6 hp6 ho6 ho5 hgr hat hbel hp4 ho4 m7 m9 hlb4
  go_wp2_with fail
  go_ret
  exact ⟨rfl, hfin, hbb6⟩
end Go.Proofs.YtkmhmehofipehaaDoor
