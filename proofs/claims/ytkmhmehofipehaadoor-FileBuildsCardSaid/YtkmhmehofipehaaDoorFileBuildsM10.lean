/- Why a block may not be next: the program's and the reference's. -/
import Derived.Test.YtkmhmehofipehaaDoorFileBuildsM1
import Derived.Test.YtkmhmehofipehaaDoorFileBuildsM9
import Derived.Test.YtkmhmehofipehaaDoorProg
import Derived.WalkSpells
import Derived.WalkLawsBesides
import Derived.Test.YtkmhmehofipehaaDoorFileBuildsM2
namespace Go.Proofs.YtkmhmehofipehaaDoor
set_option linter.unusedVariables false
open Go.RowKit
/-- an info's numbers -/
structure InfoV where
  k : Int
  ch : Int
  bi : Int
  ra : Int
  bl : Int
  sh : Int
def InfoV.v (i : InfoV) : Value := .agg #[.int .i64 i.k, .int .i64 i.ch, .int .i64 i.bi, .int .i64 i.ra, .int .i64 i.bl, .int .i64 i.sh]
def HeadV.v (h : HeadV) : Value := .agg #[.int .i64 h.k, .int .i64 h.idx, .int .i64 h.len, .int .i64 h.stp, .int .i64 h.bnd, .bool h.lst, .int .u32 h.lnk, .int .i64 h.siz]
def nextE (i : InfoV) (h : HeadV) (index : Int) (short : Bool) : Int :=
  if h.k ≠ i.k then 31 else if h.idx ≠ index then 35 else if short = true ∨ i.bl < h.len then 22 else if stepR h.stp i.bi = false then 32 else 0
set_option maxRecDepth 20000 in
set_option maxHeartbeats 4000000 in
theorem fnext_any (i : InfoV) (h : HeadV) (index : Int) (short : Bool) (w : World) (hbi : 8 ≤ i.bi ∧ i.bi ≤ 24) :
    Calls Tryd.prog 72 #[i.v, h.v, .int .i64 index, .bool short] w fun e w' => e = .returned (.int .i64 (nextE i h index short)) ∧ Below w.heap.size w w' := by
  obtain ⟨R, hR⟩ : ∃ R, R = nextE i h index short := ⟨_, rfl⟩
  rw [← hR]
  obtain ⟨ik, ich, ibi, ira, ibl, ish⟩ := i
  obtain ⟨hk, hidx, hlen, hstp, hbnd, hlst, hlnk, hsiz⟩ := h
  unfold InfoV.v HeadV.v
  unfold nextE at hR
  simp only at hR hbi ⊢
  have hb1 : Below w.heap.size w ((w.alloc (.cells #[.int .i64 ik, .int .i64 ich, .int .i64 ibi, .int .i64 ira, .int .i64 ibl, .int .i64 ish] 25)).alloc (.cells #[.int .i64 hk, .int .i64 hidx, .int .i64 hlen, .int .i64 hstp, .int .i64 hbnd, .bool hlst, .int .u32 hlnk, .int .i64 hsiz] 52)) := ((Below.refl _ w).alloc (Nat.le_refl _) _).alloc (by simp) _
  by_cases h1 : hk = ik
  case neg =>
    have d1 : (hk != ik) = true := by simpa using h1
    obtain rfl : R = 31 := by rw [hR, if_pos h1]
    clear hR h1
    go_enter Tryd.func72, Tryd.ntmps72
    go_wp2_with fail
    go_ret
    exact ⟨rfl, hb1⟩
  have d1 : (hk != ik) = false := by simpa using h1
  rw [if_neg (by rw [h1]; simp)] at hR
  clear h1
  by_cases h2 : hidx = index
  case neg =>
    have d2 : (hidx != index) = true := by simpa using h2
    obtain rfl : R = 35 := by rw [hR, if_pos h2]
    clear hR h2
    go_enter Tryd.func72, Tryd.ntmps72
    go_wp2_with fail
    go_ret
    exact ⟨rfl, hb1⟩
  have d2 : (hidx != index) = false := by simpa using h2
  rw [if_neg (by rw [h2]; simp)] at hR
  clear h2
  cases short with
  | true =>
    obtain rfl : R = 22 := by rw [hR, if_pos (.inl rfl)]
    clear hR
    go_enter Tryd.func72, Tryd.ntmps72
    go_wp2_with fail
    go_ret
    exact ⟨rfl, hb1⟩
  | false =>
    by_cases h3 : ibl < hlen
    · have d3 : decide (ibl < hlen) = true := decide_eq_true h3
      obtain rfl : R = 22 := by rw [hR, if_pos (.inr h3)]
      clear hR h3
      go_enter Tryd.func72, Tryd.ntmps72
      go_wp2_with fail
      go_ret
      exact ⟨rfl, hb1⟩
    have d3 : decide (ibl < hlen) = false := decide_eq_false h3
    rw [if_neg (by simp; omega)] at hR
    have hst := hid (fun W => stepq_any hstp ibi W)
    cases hs : stepR hstp ibi with
    | false =>
      rw [hs] at hst hR
      obtain rfl : R = 32 := by rw [hR, if_pos rfl]
      clear hR hs h3
      go_enter Tryd.func72, Tryd.ntmps72
      go_wp2_with fail
      refine (hst.out _).mono ?_
      rintro e w1 ⟨rfl, rfl⟩
      go_wp2_with fail
      go_ret
      exact ⟨rfl, hb1⟩
    | true =>
      rw [hs] at hst hR
      obtain rfl : R = 0 := by rw [hR, if_neg (by simp)]
      clear hR hs h3
      go_enter Tryd.func72, Tryd.ntmps72
      go_wp2_with fail
      refine (hst.out _).mono ?_
      rintro e w1 ⟨rfl, rfl⟩
      go_wp2_with fail
      go_ret
      exact ⟨rfl, hb1⟩
set_option maxRecDepth 20000 in
set_option maxHeartbeats 4000000 in
theorem rfnext_any (i : InfoV) (h : HeadV) (index : Int) (short : Bool) (w : World) (hbi : 8 ≤ i.bi ∧ i.bi ≤ 24) :
    Calls Tryd.prog 27 #[i.v, h.v, .int .i64 index, .bool short] w fun e w' => e = .returned (.int .i64 (nextE i h index short)) ∧ Below w.heap.size w w' := by
  obtain ⟨R, hR⟩ : ∃ R, R = nextE i h index short := ⟨_, rfl⟩
  rw [← hR]
  obtain ⟨ik, ich, ibi, ira, ibl, ish⟩ := i
  obtain ⟨hk, hidx, hlen, hstp, hbnd, hlst, hlnk, hsiz⟩ := h
  unfold InfoV.v HeadV.v
  unfold nextE at hR
  simp only at hR hbi ⊢
  have hb1 : Below w.heap.size w ((w.alloc (.cells #[.int .i64 ik, .int .i64 ich, .int .i64 ibi, .int .i64 ira, .int .i64 ibl, .int .i64 ish] 25)).alloc (.cells #[.int .i64 hk, .int .i64 hidx, .int .i64 hlen, .int .i64 hstp, .int .i64 hbnd, .bool hlst, .int .u32 hlnk, .int .i64 hsiz] 52)) := ((Below.refl _ w).alloc (Nat.le_refl _) _).alloc (by simp) _
  by_cases h1 : hk = ik
  case neg =>
    have d1 : (hk != ik) = true := by simpa using h1
    obtain rfl : R = 31 := by rw [hR, if_pos h1]
    clear hR h1
    go_enter Tryd.func27, Tryd.ntmps27
    go_wp2_with fail
    go_ret
    exact ⟨rfl, hb1⟩
  have d1 : (hk != ik) = false := by simpa using h1
  rw [if_neg (by rw [h1]; simp)] at hR
  clear h1
  by_cases h2 : hidx = index
  case neg =>
    have d2 : (hidx != index) = true := by simpa using h2
    obtain rfl : R = 35 := by rw [hR, if_pos h2]
    clear hR h2
    go_enter Tryd.func27, Tryd.ntmps27
    go_wp2_with fail
    go_ret
    exact ⟨rfl, hb1⟩
  have d2 : (hidx != index) = false := by simpa using h2
  rw [if_neg (by rw [h2]; simp)] at hR
  clear h2
  cases short with
  | true =>
    obtain rfl : R = 22 := by rw [hR, if_pos (.inl rfl)]
    clear hR
    go_enter Tryd.func27, Tryd.ntmps27
    go_wp2_with fail
    go_ret
    exact ⟨rfl, hb1⟩
  | false =>
    by_cases h3 : ibl < hlen
    · have d3 : decide (ibl < hlen) = true := decide_eq_true h3
      obtain rfl : R = 22 := by rw [hR, if_pos (.inr h3)]
      clear hR h3
      go_enter Tryd.func27, Tryd.ntmps27
      go_wp2_with fail
      go_ret
      exact ⟨rfl, hb1⟩
    have d3 : decide (ibl < hlen) = false := decide_eq_false h3
    rw [if_neg (by simp; omega)] at hR
    have hst := hid (fun W => rstepq_any hstp ibi W hbi)
    cases hs : stepR hstp ibi with
    | false =>
      rw [hs] at hst hR
      obtain rfl : R = 32 := by rw [hR, if_pos rfl]
      clear hR hs h3
      go_enter Tryd.func27, Tryd.ntmps27
      go_wp2_with fail
      refine (hst.out _).mono ?_
      rintro e w1 ⟨rfl, rfl⟩
      go_wp2_with fail
      go_ret
      exact ⟨rfl, hb1⟩
    | true =>
      rw [hs] at hst hR
      obtain rfl : R = 0 := by rw [hR, if_neg (by simp)]
      clear hR hs h3
      go_enter Tryd.func27, Tryd.ntmps27
      go_wp2_with fail
      refine (hst.out _).mono ?_
      rintro e w1 ⟨rfl, rfl⟩
      go_wp2_with fail
      go_ret
      exact ⟨rfl, hb1⟩
end Go.Proofs.YtkmhmehofipehaaDoor
/- Slices of whole numbers, and what their last three bits are. -/
namespace Go.Proofs.YtkmhmehofipehaaDoor
set_option linter.unusedVariables false
open Go.RowKit
def intV (x : Int) : Value := .int .i64 x
def SeesI (w : World) (A : Option Addr) (l : List Int) : Prop := Sees w A (l.map intV)
theorem SeesI.at {w : World} {A : Option Addr} {l : List Int} (h : SeesI w A l) {i : Nat} (hi : i < l.length) :
    ∃ a, A = some a ∧ w.cell? (a.add i) = some (.int .i64 l[i]) := h i (intV l[i]) (by rw [List.getElem?_map, List.getElem?_eq_getElem hi]; rfl)
theorem SeesI.below {w w' : World} {A : Option Addr} {l : List Int} (h : SeesI w A l) (hk : Below w.heap.size w w') : SeesI w' A l := Sees.below h hk
theorem elI : Elem Tryd.prog 41 3 1 8 := Elem.mk' Tryd.underlying41 (z := .int .i64 0) (by kernel_rfl) rfl (by omega)
theorem ints_one (l : List Int) : ∀ u ∈ l.map intV, u.oneCell' = true := by
  intro u hu
  obtain ⟨b, _, rfl⟩ := List.mem_map.1 hu
  rfl
theorem bits7 (x : Int) : ∃ k : Nat, bits .and .i64 x 7 = (k : Int) ∧ k ≤ 7 := by
  refine ⟨(bits .and .i64 x 7).toNat, ?_, ?_⟩
  all_goals
    have h : (BitVec.ofInt 64 x &&& 7#64).toNat ≤ 7 := by
      rw [BitVec.toNat_and]; exact Nat.and_le_right
    have hh : bits .and .i64 x 7 = ((BitVec.ofInt 64 x &&& 7#64).toNat : Int) := by
      show IntKind.i64.wrap ((BitVec.ofInt 64 x &&& BitVec.ofInt 64 7).toNat : Int) = _
      rw [show BitVec.ofInt 64 7 = 7#64 from rfl, IntKind.wrap_i64]
      omega
    rw [hh]
    omega
end Go.Proofs.YtkmhmehofipehaaDoor
/- Rows of the call's own beside a maker. -/
namespace Go.Proofs.YtkmhmehofipehaaDoor
set_option linter.unusedVariables false
open Go.RowKit
/-- what an append of a row turns is that row alone -/
theorem But.of_grown {B : Nat} {w w' : World} {v : Value} (hg : w.grownBy w' v.ownBlock) (hb : Below B w w') : But (fun b => v.ownBlock = some b) w w' :=
  ⟨hb.os, hb.tape, hb.output, hb.size, fun n hn h => hg.block n hn (fun hh => h hh.symm)⟩
/-- a row of the call's own stays where others turn -/
theorem own_but {R : Nat → Prop} {w w' : World} {base n size : Nat} {e : TypeId} {v : Value} {xs : List Value} (h : w.ownsRow base e size v n xs) (hb : But R w w') (hR : ∀ k, v.ownBlock = some k → ¬ R k) : w'.ownsRow base e size v n xs := by
  refine ⟨h.1, ?_⟩
  rcases h.2 with h0 | ⟨g, cap, cur, hv, h1, h2, h3⟩
  · exact .inl h0
  · exact .inr ⟨g, cap, cur, hv, h1, (hb.block g (Array.getElem?_eq_some_iff.1 h2).1 (hR g (by rw [hv]; rfl))).trans h2, h3⟩
theorem own_lt {w : World} {base n size : Nat} {e : TypeId} {v : Value} {xs : List Value} (h : w.ownsRow base e size v n xs) {k : Nat} (hk : v.ownBlock = some k) : k < w.heap.size := by
  rcases h.2 with ⟨rfl, _⟩ | ⟨g, cap, cur, rfl, h1, h2, h3⟩
  · simp [Value.ownBlock] at hk
  · have : g = k := by simpa [Value.ownBlock] using hk
    subst this; exact (Array.getElem?_eq_some_iff.1 h2).1
/-- a maker and a row of the call's own, apart from one another -/
def Both (w : World) (base g : Nat) (R : Nat → Prop) (err : Int) (l : List UInt8) (e : TypeId) (v : Value) (n : Nat) (xs : List Value) : Prop :=
  Mk w g R err l ∧ w.ownsRow base e 1 v n xs ∧ (∀ k, v.ownBlock = some k → ¬ R k) ∧ (∀ k, R k → base ≤ k)
theorem Both.made {w w' : World} {base g : Nat} {R R' : Nat → Prop} {err err' : Int} {l l' : List UInt8} {e : TypeId} {v : Value} {n : Nat} {xs : List Value} (h : Both w base g R err l e v n xs)
    (hm : Mk w' g R' err' l') (hb : But R w w') (hR : ∀ b, R' b → R b ∨ w.heap.size ≤ b) (hB : base ≤ w.heap.size) : Both w' base g R' err' l' e v n xs := by
  obtain ⟨h1, h2, h3, h4⟩ := h
  refine ⟨hm, own_but h2 hb h3, fun k hk hr => ?_, fun k hr => ?_⟩
  · rcases hR k hr with h | h
    · exact h3 k hk h
    · have := own_lt h2 hk; omega
  · rcases hR k hr with h | h
    · exact h4 k h
    · omega
theorem Both.app {w w' : World} {base g : Nat} {R : Nat → Prop} {err : Int} {l : List UInt8} {e : TypeId} {v v' : Value} {n n' : Nat} {xs xs' : List Value} (h : Both w base g R err l e v n xs)
    (ho : w'.ownsRow base e 1 v' n' xs') (hg : w.grownBy w' v.ownBlock) (hat : v'.ownBlock = v.ownBlock ∨ v'.ownBlock = some w.heap.size) (hb : Below base w w') : Both w' base g R err l e v' n' xs' := by
  obtain ⟨h1, h2, h3, h4⟩ := h
  refine ⟨h1.but (But.of_grown hg hb) (fun b hb' => h3 b hb'), ho, fun k hk hr => ?_, h4⟩
  rcases hat with h | h
  · exact h3 k (by rw [← h]; exact hk) hr
  · rw [h] at hk
    injection hk with hk
    have : k < w.heap.size := by obtain ⟨_, _, _, _, _, _, hz⟩ := h1; exact hz k hr
    omega
end Go.Proofs.YtkmhmehofipehaaDoor
