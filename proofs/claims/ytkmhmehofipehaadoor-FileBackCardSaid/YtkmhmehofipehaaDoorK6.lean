/- Slices of whole numbers, and what their last three bits are. -/
import Derived.Test.YtkmhmehofipehaaDoorProg
import Derived.Test.YtkmhmehofipehaaDoorK1
import Derived.WalkSpells
import Derived.WalkLawsBesides
import Derived.Test.YtkmhmehofipehaaDoorK2
import Derived.Test.YtkmhmehofipehaaDoorK5
import Derived.Deep.RegionHeld3
import Derived.Test.YtkmhmehofipehaaDoorK3
import Derived.Deep.DeepCutAuto
namespace Go.Proofs.YtkmhmehofipehaaDoor
set_option linter.unusedVariables false
open Go.RowKit
def intV (x : Int) : Value := .int .i64 x
def SeesI (w : World) (A : Option Addr) (l : List Int) : Prop := Sees w A (l.map intV)
theorem SeesI.at {w : World} {A : Option Addr} {l : List Int} (h : SeesI w A l) {i : Nat} (hi : i < l.length) :
    ∃ a, A = some a ∧ w.cell? (a.add i) = some (.int .i64 l[i]) := h i (intV l[i]) (by rw [List.getElem?_map, List.getElem?_eq_getElem hi]; rfl)
theorem SeesI.below {w w' : World} {A : Option Addr} {l : List Int} (h : SeesI w A l) (hk : Below w.heap.size w w') : SeesI w' A l := Sees.below h hk
theorem elI : Elem Tryd.prog 41 3 1 8 := Elem.mk' Tryd.underlying41 (z := .int .i64 0) (by kernel_rfl) rfl (by omega)
theorem ints_one (l : List Int) : ∀ u ∈ l.map intV, u.oneCell' = true := by
  intro u hu
  obtain ⟨b, _, rfl⟩ := List.mem_map.1 hu
  rfl
theorem bits7 (x : Int) : ∃ k : Nat, bits .and .i64 x 7 = (k : Int) ∧ k ≤ 7 := by
  refine ⟨(bits .and .i64 x 7).toNat, ?_, ?_⟩
  all_goals
    have h : (BitVec.ofInt 64 x &&& 7#64).toNat ≤ 7 := by
      rw [BitVec.toNat_and]; exact Nat.and_le_right
    have hh : bits .and .i64 x 7 = ((BitVec.ofInt 64 x &&& 7#64).toNat : Int) := by
      show IntKind.i64.wrap ((BitVec.ofInt 64 x &&& BitVec.ofInt 64 7).toNat : Int) = _
      rw [show BitVec.ofInt 64 7 = 7#64 from rfl, IntKind.wrap_i64]
      omega
    rw [hh]
    omega
end Go.Proofs.YtkmhmehofipehaaDoor
/- Rows of the call's own beside a maker. -/
namespace Go.Proofs.YtkmhmehofipehaaDoor
set_option linter.unusedVariables false
open Go.RowKit
/-- what an append of a row turns is that row alone -/
theorem But.of_grown {B : Nat} {w w' : World} {v : Value} (hg : w.grownBy w' v.ownBlock) (hb : Below B w w') : But (fun b => v.ownBlock = some b) w w' :=
  ⟨hb.os, hb.tape, hb.output, hb.size, fun n hn h => hg.block n hn (fun hh => h hh.symm)⟩
/-- a row of the call's own stays where others turn -/
theorem own_but {R : Nat → Prop} {w w' : World} {base n size : Nat} {e : TypeId} {v : Value} {xs : List Value} (h : w.ownsRow base e size v n xs) (hb : But R w w') (hR : ∀ k, v.ownBlock = some k → ¬ R k) : w'.ownsRow base e size v n xs := by
  refine ⟨h.1, ?_⟩
  rcases h.2 with h0 | ⟨g, cap, cur, hv, h1, h2, h3⟩
  · exact .inl h0
  · exact .inr ⟨g, cap, cur, hv, h1, (hb.block g (Array.getElem?_eq_some_iff.1 h2).1 (hR g (by rw [hv]; rfl))).trans h2, h3⟩
theorem own_lt {w : World} {base n size : Nat} {e : TypeId} {v : Value} {xs : List Value} (h : w.ownsRow base e size v n xs) {k : Nat} (hk : v.ownBlock = some k) : k < w.heap.size := by
  rcases h.2 with ⟨rfl, _⟩ | ⟨g, cap, cur, rfl, h1, h2, h3⟩
  · simp [Value.ownBlock] at hk
  · have : g = k := by simpa [Value.ownBlock] using hk
    subst this; exact (Array.getElem?_eq_some_iff.1 h2).1
/-- a maker and a row of the call's own, apart from one another -/
def Both (w : World) (base g : Nat) (R : Nat → Prop) (err : Int) (l : List UInt8) (e : TypeId) (v : Value) (n : Nat) (xs : List Value) : Prop :=
  Mk w g R err l ∧ w.ownsRow base e 1 v n xs ∧ (∀ k, v.ownBlock = some k → ¬ R k) ∧ (∀ k, R k → base ≤ k)
theorem Both.made {w w' : World} {base g : Nat} {R R' : Nat → Prop} {err err' : Int} {l l' : List UInt8} {e : TypeId} {v : Value} {n : Nat} {xs : List Value} (h : Both w base g R err l e v n xs)
    (hm : Mk w' g R' err' l') (hb : But R w w') (hR : ∀ b, R' b → R b ∨ w.heap.size ≤ b) (hB : base ≤ w.heap.size) : Both w' base g R' err' l' e v n xs := by
  obtain ⟨h1, h2, h3, h4⟩ := h
  refine ⟨hm, own_but h2 hb h3, fun k hk hr => ?_, fun k hr => ?_⟩
  · rcases hR k hr with h | h
    · exact h3 k hk h
    · have := own_lt h2 hk; omega
  · rcases hR k hr with h | h
    · exact h4 k h
    · omega
theorem Both.app {w w' : World} {base g : Nat} {R : Nat → Prop} {err : Int} {l : List UInt8} {e : TypeId} {v v' : Value} {n n' : Nat} {xs xs' : List Value} (h : Both w base g R err l e v n xs)
    (ho : w'.ownsRow base e 1 v' n' xs') (hg : w.grownBy w' v.ownBlock) (hat : v'.ownBlock = v.ownBlock ∨ v'.ownBlock = some w.heap.size) (hb : Below base w w') : Both w' base g R err l e v' n' xs' := by
  obtain ⟨h1, h2, h3, h4⟩ := h
  refine ⟨h1.but (But.of_grown hg hb) (fun b hb' => h3 b hb'), ho, fun k hk hr => ?_, h4⟩
  rcases hat with h | h
  · exact h3 k (by rw [← h]; exact hk) hr
  · rw [h] at hk
    injection hk with hk
    have : k < w.heap.size := by obtain ⟨_, _, _, _, _, _, hz⟩ := h1; exact hz k hr
    omega
end Go.Proofs.YtkmhmehofipehaaDoor
/- A file on its way: what is noted of the next block. -/
namespace Go.Proofs.YtkmhmehofipehaaDoor
set_option linter.unusedVariables false
open Go.RowKit
theorem undrewF {B : Nat} {w w' : World} (h : Below B w.drew w') : Below B w w' := ⟨h.os, h.tape, h.output, h.size, h.block⟩
set_option maxRecDepth 20000 in
set_option maxHeartbeats 4000000 in
theorem mnext_bad (m : Nat) (cs : Array Value) (t : TypeId) (i : InfoV) (h : HeadV) (at_ : Int) (np cp : Nat) (Ap : Option Addr) (short : Bool) (w : World) (hbi : 8 ≤ i.bi ∧ i.bi ≤ 24)
    (hm : w.heap[m]? = some (.cells cs t (0, 0))) (h1 : cs[1]? = some (.int .i64 i.k)) (h2 : cs[2]? = some (.int .i64 i.ch)) (h3 : cs[3]? = some (.int .i64 i.bi)) (h4 : cs[4]? = some (.int .i64 i.ra)) (h5 : cs[5]? = some (.int .i64 i.bl)) (h6 : cs[6]? = some (.int .i64 i.sh))
    (h8 : cs[8]? = some (.slice Ap np cp)) (h10 : cs[10]? = some (.bool short)) (hE : nextE i h np short ≠ 0) :
    Calls Tryd.prog 43 #[.pointer (some ⟨m, 0, none⟩), h.v, .int .i64 at_] w fun e w' => e = .returned (.int .i64 (nextE i h np short)) ∧ Below w.heap.size w w' := by
  have hN := hid (fun W => fnext_any i h np short W hbi)
  obtain ⟨E, hEE⟩ : ∃ E, E = nextE i h np short := ⟨_, rfl⟩
  rw [← hEE] at hN hE ⊢
  clear hEE
  have dE : (E != 0) = true := by simpa using hE
  obtain ⟨ik, ich, ibi, ira, ibl, ish⟩ := i
  obtain ⟨hk, hidx, hlen, hstp, hbnd, hlst, hlnk, hsiz⟩ := h
  unfold InfoV.v HeadV.v at hN
  unfold HeadV.v
  simp only at h1 h2 h3 h4 h5 h6 hN hbi ⊢
  have hmlt := (Array.getElem?_eq_some_iff.1 hm).1
  have hb0 : Below w.heap.size w (w.alloc (.cells #[.int .i64 hk, .int .i64 hidx, .int .i64 hlen, .int .i64 hstp, .int .i64 hbnd, .bool hlst, .int .u32 hlnk, .int .i64 hsiz] 52)) := (Below.refl _ w).alloc (Nat.le_refl _) _
  have hrow := heap_alloc_new w (.cells #[.int .i64 hk, .int .i64 hidx, .int .i64 hlen, .int .i64 hstp, .int .i64 hbnd, .bool hlst, .int .u32 hlnk, .int .i64 hsiz] 52)
  have hm0 := (hb0.block m hmlt).trans hm
  go_enter Tryd.func43, Tryd.ntmps43
  go_wp2_with fail
  generalize w.alloc (.cells #[.int .i64 hk, .int .i64 hidx, .int .i64 hlen, .int .i64 hstp, .int .i64 hbnd, .bool hlst, .int .u32 hlnk, .int .i64 hsiz] 52) = w0 at *
  have c1 : w0.cell? ⟨m, 1, none⟩ = some (.int .i64 ik) := by rw [cell_of_row _ _ _ _ _ _ hm0]; exact h1
  have c2 : w0.cell? ⟨m, 2, none⟩ = some (.int .i64 ich) := by rw [cell_of_row _ _ _ _ _ _ hm0]; exact h2
  have c3 : w0.cell? ⟨m, 3, none⟩ = some (.int .i64 ibi) := by rw [cell_of_row _ _ _ _ _ _ hm0]; exact h3
  have c4 : w0.cell? ⟨m, 4, none⟩ = some (.int .i64 ira) := by rw [cell_of_row _ _ _ _ _ _ hm0]; exact h4
  have c5 : w0.cell? ⟨m, 5, none⟩ = some (.int .i64 ibl) := by rw [cell_of_row _ _ _ _ _ _ hm0]; exact h5
  have c6 : w0.cell? ⟨m, 6, none⟩ = some (.int .i64 ish) := by rw [cell_of_row _ _ _ _ _ _ hm0]; exact h6
  have c8 : w0.cell? ⟨m, 8, none⟩ = some (.slice Ap np cp) := by rw [cell_of_row _ _ _ _ _ _ hm0]; exact h8
  have c10 : w0.cell? ⟨m, 10, none⟩ = some (.bool short) := by rw [cell_of_row _ _ _ _ _ _ hm0]; exact h10
  have e0 : w0.cell? ⟨w.heap.size, 0, none⟩ = some (.int .i64 hk) := by rw [cell_of_row _ _ _ _ _ _ hrow]; rfl
  have e1 : w0.cell? ⟨w.heap.size, 1, none⟩ = some (.int .i64 hidx) := by rw [cell_of_row _ _ _ _ _ _ hrow]; rfl
  have e2 : w0.cell? ⟨w.heap.size, 2, none⟩ = some (.int .i64 hlen) := by rw [cell_of_row _ _ _ _ _ _ hrow]; rfl
  have e3 : w0.cell? ⟨w.heap.size, 3, none⟩ = some (.int .i64 hstp) := by rw [cell_of_row _ _ _ _ _ _ hrow]; rfl
  have e4 : w0.cell? ⟨w.heap.size, 4, none⟩ = some (.int .i64 hbnd) := by rw [cell_of_row _ _ _ _ _ _ hrow]; rfl
  have e5 : w0.cell? ⟨w.heap.size, 5, none⟩ = some (.bool hlst) := by rw [cell_of_row _ _ _ _ _ _ hrow]; rfl
  have e6 : w0.cell? ⟨w.heap.size, 6, none⟩ = some (.int .u32 hlnk) := by rw [cell_of_row _ _ _ _ _ _ hrow]; rfl
  have e7 : w0.cell? ⟨w.heap.size, 7, none⟩ = some (.int .i64 hsiz) := by rw [cell_of_row _ _ _ _ _ _ hrow]; rfl
  clear hm hm0 hrow h1 h2 h3 h4 h5 h6 h8 h10 hE
  go_region_held3 (fun w' => w'.cell? ⟨m, 1, none⟩ = some (.int .i64 ik) ∧ w'.cell? ⟨m, 2, none⟩ = some (.int .i64 ich) ∧ w'.cell? ⟨m, 3, none⟩ = some (.int .i64 ibi) ∧ w'.cell? ⟨m, 4, none⟩ = some (.int .i64 ira) ∧ w'.cell? ⟨m, 5, none⟩ = some (.int .i64 ibl) ∧ w'.cell? ⟨m, 6, none⟩ = some (.int .i64 ish) ∧ w'.cell? ⟨m, 8, none⟩ = some (.slice Ap np cp) ∧ w'.cell? ⟨m, 10, none⟩ = some (.bool short) ∧ w'.cell? ⟨w.heap.size, 0, none⟩ = some (.int .i64 hk) ∧ w'.cell? ⟨w.heap.size, 1, none⟩ = some (.int .i64 hidx) ∧ w'.cell? ⟨w.heap.size, 2, none⟩ = some (.int .i64 hlen) ∧ w'.cell? ⟨w.heap.size, 3, none⟩ = some (.int .i64 hstp) ∧ w'.cell? ⟨w.heap.size, 4, none⟩ = some (.int .i64 hbnd) ∧ w'.cell? ⟨w.heap.size, 5, none⟩ = some (.bool hlst) ∧ w'.cell? ⟨w.heap.size, 6, none⟩ = some (.int .u32 hlnk) ∧ w'.cell? ⟨w.heap.size, 7, none⟩ = some (.int .i64 hsiz))
    (first | exact ⟨c1, c2, c3, c4, c5, c6, c8, c10, e0, e1, e2, e3, e4, e5, e6, e7⟩ | exact ⟨f1, f2, f3, f4, f5, f6, f8, f10, k0, k1, k2, k3, k4, k5, k6, k7⟩ | go_keep)
    (first | (go_at_call 72; refine (hN.out _).mono ?_; rintro e w1 ⟨rfl, hb1⟩; have f1 := keep1 hb1 c1; have f2 := keep1 hb1 c2; have f3 := keep1 hb1 c3; have f4 := keep1 hb1 c4; have f5 := keep1 hb1 c5; have f6 := keep1 hb1 c6; have f8 := keep1 hb1 c8; have f10 := keep1 hb1 c10; have k0 := keep1 hb1 e0; have k1 := keep1 hb1 e1; have k2 := keep1 hb1 e2; have k3 := keep1 hb1 e3; have k4 := keep1 hb1 e4; have k5 := keep1 hb1 e5; have k6 := keep1 hb1 e6; have k7 := keep1 hb1 e7))
  have hbw := hb0.trans ((undrewF hb1).mono hb0.size)
  clear c1 f1 c2 f2 c3 f3 c4 f4 c5 f5 c6 f6 c8 f8 c10 f10 e0 k0 e1 k1 e2 k2 e3 k3 e4 k4 e5 k5 e6 k6 e7 k7 hb1
  go_wp2_with fail
  go_ret
  exact ⟨rfl, hbw⟩
/-- what next leaves where the block may be next -/
def MNext (base m : Nat) (cs : Array Value) (t : TypeId) (pl : List Int) (Ap : Option Addr) (cp : Nat) (at_ cnt : Int) (short : Bool) (w : World) (e : Ending) (w' : World) : Prop :=
  e = .returned (.int .i64 0) ∧ ∃ (Aq : Option Addr) (cq : Nat), w'.heap[m]? = some (.cells (((cs.setIfInBounds 8 (.slice Aq (pl.length + 1) cq)).setIfInBounds 9 (.int .i64 cnt)).setIfInBounds 10 (.bool short)) t (0, 0)) ∧
    w'.ownsRow base 3 1 (.slice Aq (pl.length + 1) cq) (pl.length + 1) ((pl ++ [at_]).map intV) ∧ But (fun b => b = m ∨ (Value.slice Ap pl.length cp).ownBlock = some b) w w' ∧
    ((Value.slice Aq (pl.length + 1) cq).ownBlock = (Value.slice Ap pl.length cp).ownBlock ∨ ∃ k, (Value.slice Aq (pl.length + 1) cq).ownBlock = some k ∧ w.heap.size ≤ k)
set_option maxRecDepth 20000 in
set_option maxHeartbeats 4000000 in
theorem mnext_ok (m : Nat) (cs : Array Value) (t : TypeId) (i : InfoV) (h : HeadV) (at_ : Int) (np cp : Nat) (Ap : Option Addr) (short : Bool) (w : World) (hbi : 8 ≤ i.bi ∧ i.bi ≤ 24)
    (hm : w.heap[m]? = some (.cells cs t (0, 0))) (h1 : cs[1]? = some (.int .i64 i.k)) (h2 : cs[2]? = some (.int .i64 i.ch)) (h3 : cs[3]? = some (.int .i64 i.bi)) (h4 : cs[4]? = some (.int .i64 i.ra)) (h5 : cs[5]? = some (.int .i64 i.bl)) (h6 : cs[6]? = some (.int .i64 i.sh))
    (h8 : cs[8]? = some (.slice Ap np cp)) (h10 : cs[10]? = some (.bool short)) (cnt : Int) (h9 : cs[9]? = some (.int .i64 cnt)) (base : Nat) (pl : List Int) (hpl : np = pl.length) (hown : w.ownsRow base 3 1 (.slice Ap np cp) np (pl.map intV)) (hbase : base ≤ w.heap.size) (ht : 3 ≠ t) (hp : pl.length ≤ 100000) (hcnt : 0 ≤ cnt ∧ cnt ≤ 1000000000000000) (hhl : 0 ≤ h.len ∧ h.len ≤ 1000000) (hE : nextE i h np short = 0) :
    Calls Tryd.prog 43 #[.pointer (some ⟨m, 0, none⟩), h.v, .int .i64 at_] w (MNext base m cs t pl Ap cp at_ (cnt + h.len) (decide (h.len < i.bl)) w) := by
  have hN := hid (fun W => fnext_any i h np short W hbi)
  obtain ⟨E, hEE⟩ : ∃ E, E = nextE i h np short := ⟨_, rfl⟩
  rw [← hEE] at hN hE
  have HE := hid hE
  clear hEE hE
  obtain ⟨ik, ich, ibi, ira, ibl, ish⟩ := i
  obtain ⟨hk, hidx, hlen, hstp, hbnd, hlst, hlnk, hsiz⟩ := h
  unfold InfoV.v HeadV.v at hN
  unfold HeadV.v
  simp only at h1 h2 h3 h4 h5 h6 hN hbi ⊢
  have hmlt := (Array.getElem?_eq_some_iff.1 hm).1
  have hb0 : Below w.heap.size w (w.alloc (.cells #[.int .i64 hk, .int .i64 hidx, .int .i64 hlen, .int .i64 hstp, .int .i64 hbnd, .bool hlst, .int .u32 hlnk, .int .i64 hsiz] 52)) := (Below.refl _ w).alloc (Nat.le_refl _) _
  have hrow := heap_alloc_new w (.cells #[.int .i64 hk, .int .i64 hidx, .int .i64 hlen, .int .i64 hstp, .int .i64 hbnd, .bool hlst, .int .u32 hlnk, .int .i64 hsiz] 52)
  have hm0 := (hb0.block m hmlt).trans hm
  simp only at hhl
  go_enter Tryd.func43, Tryd.ntmps43
  go_wp2_with fail
  generalize hw0 : w.alloc (.cells #[.int .i64 hk, .int .i64 hidx, .int .i64 hlen, .int .i64 hstp, .int .i64 hbnd, .bool hlst, .int .u32 hlnk, .int .i64 hsiz] 52) = w0 at *
  clear hw0
  have c1 : w0.cell? ⟨m, 1, none⟩ = some (.int .i64 ik) := by rw [cell_of_row _ _ _ _ _ _ hm0]; exact h1
  have c2 : w0.cell? ⟨m, 2, none⟩ = some (.int .i64 ich) := by rw [cell_of_row _ _ _ _ _ _ hm0]; exact h2
  have c3 : w0.cell? ⟨m, 3, none⟩ = some (.int .i64 ibi) := by rw [cell_of_row _ _ _ _ _ _ hm0]; exact h3
  have c4 : w0.cell? ⟨m, 4, none⟩ = some (.int .i64 ira) := by rw [cell_of_row _ _ _ _ _ _ hm0]; exact h4
  have c5 : w0.cell? ⟨m, 5, none⟩ = some (.int .i64 ibl) := by rw [cell_of_row _ _ _ _ _ _ hm0]; exact h5
  have c6 : w0.cell? ⟨m, 6, none⟩ = some (.int .i64 ish) := by rw [cell_of_row _ _ _ _ _ _ hm0]; exact h6
  have c8 : w0.cell? ⟨m, 8, none⟩ = some (.slice Ap np cp) := by rw [cell_of_row _ _ _ _ _ _ hm0]; exact h8
  have c10 : w0.cell? ⟨m, 10, none⟩ = some (.bool short) := by rw [cell_of_row _ _ _ _ _ _ hm0]; exact h10
  have e0 : w0.cell? ⟨w.heap.size, 0, none⟩ = some (.int .i64 hk) := by rw [cell_of_row _ _ _ _ _ _ hrow]; rfl
  have e1 : w0.cell? ⟨w.heap.size, 1, none⟩ = some (.int .i64 hidx) := by rw [cell_of_row _ _ _ _ _ _ hrow]; rfl
  have e2 : w0.cell? ⟨w.heap.size, 2, none⟩ = some (.int .i64 hlen) := by rw [cell_of_row _ _ _ _ _ _ hrow]; rfl
  have e3 : w0.cell? ⟨w.heap.size, 3, none⟩ = some (.int .i64 hstp) := by rw [cell_of_row _ _ _ _ _ _ hrow]; rfl
  have e4 : w0.cell? ⟨w.heap.size, 4, none⟩ = some (.int .i64 hbnd) := by rw [cell_of_row _ _ _ _ _ _ hrow]; rfl
  have e5 : w0.cell? ⟨w.heap.size, 5, none⟩ = some (.bool hlst) := by rw [cell_of_row _ _ _ _ _ _ hrow]; rfl
  have e6 : w0.cell? ⟨w.heap.size, 6, none⟩ = some (.int .u32 hlnk) := by rw [cell_of_row _ _ _ _ _ _ hrow]; rfl
  have e7 : w0.cell? ⟨w.heap.size, 7, none⟩ = some (.int .i64 hsiz) := by rw [cell_of_row _ _ _ _ _ _ hrow]; rfl
  have H5 := hid h5
  have H8 := hid h8
  have H9 := hid h9
  have H10 := hid h10
  have HPL := hid hpl
  have HOW := hid hown
  clear hm h1 h2 h3 h4 h5 h6 h8 h9 h10 hpl hown
  go_region_held3 (fun w' => w'.cell? ⟨m, 1, none⟩ = some (.int .i64 ik) ∧ w'.cell? ⟨m, 2, none⟩ = some (.int .i64 ich) ∧ w'.cell? ⟨m, 3, none⟩ = some (.int .i64 ibi) ∧ w'.cell? ⟨m, 4, none⟩ = some (.int .i64 ira) ∧ w'.cell? ⟨m, 5, none⟩ = some (.int .i64 ibl) ∧ w'.cell? ⟨m, 6, none⟩ = some (.int .i64 ish) ∧ w'.cell? ⟨m, 8, none⟩ = some (.slice Ap np cp) ∧ w'.cell? ⟨m, 10, none⟩ = some (.bool short) ∧ w'.cell? ⟨w.heap.size, 0, none⟩ = some (.int .i64 hk) ∧ w'.cell? ⟨w.heap.size, 1, none⟩ = some (.int .i64 hidx) ∧ w'.cell? ⟨w.heap.size, 2, none⟩ = some (.int .i64 hlen) ∧ w'.cell? ⟨w.heap.size, 3, none⟩ = some (.int .i64 hstp) ∧ w'.cell? ⟨w.heap.size, 4, none⟩ = some (.int .i64 hbnd) ∧ w'.cell? ⟨w.heap.size, 5, none⟩ = some (.bool hlst) ∧ w'.cell? ⟨w.heap.size, 6, none⟩ = some (.int .u32 hlnk) ∧ w'.cell? ⟨w.heap.size, 7, none⟩ = some (.int .i64 hsiz))
    (first | exact ⟨c1, c2, c3, c4, c5, c6, c8, c10, e0, e1, e2, e3, e4, e5, e6, e7⟩ | exact ⟨f1, f2, f3, f4, f5, f6, f8, f10, k0, k1, k2, k3, k4, k5, k6, k7⟩ | go_keep)
    (first | (go_at_call 72; refine (hN.out _).mono ?_; rintro e w1 ⟨rfl, hb1⟩; have f1 := keep1 hb1 c1; have f2 := keep1 hb1 c2; have f3 := keep1 hb1 c3; have f4 := keep1 hb1 c4; have f5 := keep1 hb1 c5; have f6 := keep1 hb1 c6; have f8 := keep1 hb1 c8; have f10 := keep1 hb1 c10; have k0 := keep1 hb1 e0; have k1 := keep1 hb1 e1; have k2 := keep1 hb1 e2; have k3 := keep1 hb1 e3; have k4 := keep1 hb1 e4; have k5 := keep1 hb1 e5; have k6 := keep1 hb1 e6; have k7 := keep1 hb1 e7))
  have hb1' := undrewF hb1
  have hm1 := (hb1'.block m (Array.getElem?_eq_some_iff.1 hm0).1).trans hm0
  have hg1 := (hb1'.block w.heap.size (Array.getElem?_eq_some_iff.1 hrow).1).trans hrow
  have hbw := hb0.trans (hb1'.mono hb0.size)
  clear c1 f1 c2 f2 c3 f3 c4 f4 c5 f5 c6 f6 c10 f10 c8 e0 k0 e1 k1 e2 k2 e3 k3 e4 k4 e5 k5 e6 k6 e7 k7 hb1 hb1' hm0 hrow hb0
  obtain rfl : E = 0 := HE.out
  have hown1 : w1.ownsRow base 3 1 (.slice Ap np cp) np (pl.map intV) := own_but HOW.out (But.of_below (R := fun _ => False) hbw) (fun _ _ h => h)
  have hlm1 := (Array.getElem?_eq_some_iff.1 hm1).1
  have hlg1 := (Array.getElem?_eq_some_iff.1 hg1).1
  have c8 : w1.cell? ⟨m, 8, none⟩ = some (.slice Ap np cp) := by rw [cell_of_row _ _ _ _ _ _ hm1]; exact H8.out
  have hba : Below w1.heap.size w1 (w1.alloc (.cells #[.int .i64 at_] 3)) := (Below.refl _ w1).alloc (Nat.le_refl _) _
  have HMM := hid (show pl.map intV ++ [intV at_] = (pl ++ [at_]).map intV by simp)
  have hmA := (hba.block m hlm1).trans hm1
  have hgA := (hba.block w.heap.size hlg1).trans hg1
  have hnp := HPL.out
  have hnp2 : np ≤ 100000 := by omega
  clear hnp
  have hmg : m ≠ w.heap.size := by omega
  have hownA := hown1.alloc (.cells #[.int .i64 at_] 3)
  have HNM := hid (own_other hownA hmA ht)
  have HNG := hid (own_other hownA hgA (show 3 ≠ 52 by decide))
  have hbaseA : base ≤ (w1.alloc (.cells #[.int .i64 at_] 3)).heap.size := Nat.le_trans hbase (Nat.le_trans hbw.size hba.size)
  have hwba := hbw.trans (hba.mono hbw.size)
  clear hown1
  go_wp2_with (at_builtin; refine wpList_app rfl (.tmp 30) (.tmp 32) _ rfl elI rfl hownA (some ⟨w1.heap.size, 0, none⟩) 1 1 rfl [intV at_] (Sees.of_alloc _ _ _ rfl) (by simp) (by simp [intV, Value.oneCell']) (np + 1) rfl _ HMM.out (by unfold maxLen; omega) (by omega) hbaseA ?_; intro A3 c3 w3 hown3 hgr hat hbel; have hm3 := (hgr.block m (Nat.lt_of_lt_of_le hlm1 hba.size) (fun hh => HNM.out hh.symm)).trans hmA; have hg3 := (hgr.block w.heap.size (Nat.lt_of_lt_of_le hlg1 hba.size) (fun hh => HNG.out hh.symm)).trans hgA; have c8b : w3.cell? ⟨m, 8, none⟩ = some (.slice Ap np cp) := (by rw [cell_of_row _ _ _ _ _ _ hm3]; exact H8.out); have f8b : w3.frozen? ⟨m, 8, none⟩ = false := frozen_of_row _ _ _ _ _ hm3)
  have hmk : m < w3.heap.size := (Array.getElem?_eq_some_iff.1 hm3).1
  have hR := hid (show But (fun b => b = m ∨ (Value.slice Ap np cp).ownBlock = some b) w w3 from (But.of_below hwba).trans (But.of_grown hgr hbel) (fun n h => .inl (.inr h)))
  have hm4 := heap_setCell_same w3 m 8 cs t (.slice A3 (np + 1) c3) hm3
  have hg4 := (heap_setCell_other w3 ⟨m, 8, none⟩ w.heap.size (.slice A3 (np + 1) c3) (Ne.symm hmg)).trans hg3
  have hB4 : But (Only m) w3 (w3.setCell ⟨m, 8, none⟩ (.slice A3 (np + 1) c3)) := ⟨rfl, rfl, rfl, by simp [World.setCell], fun b _ hb => heap_setCell_other w3 _ b _ (fun h => hb h)⟩
  have hown4 := own_but hown3 hB4 (fun k hk hh => own_other hown3 hm3 ht (by have h2 : k = m := hh; rw [← h2]; exact hk))
  have hR4 := hid (hR.out.trans hB4 (fun n h => .inl (.inl h)))
  have HAT := hid (show (Value.slice A3 (np + 1) c3).ownBlock = (Value.slice Ap np cp).ownBlock ∨ ∃ k, (Value.slice A3 (np + 1) c3).ownBlock = some k ∧ w.heap.size ≤ k from hat.imp id (fun h => ⟨_, h, hwba.size⟩))
  clear hm3 hg3 hB4 hown3 hR c8b f8b hgr hat hbel hmA hgA hownA hm1 hg1 c8 hba hbaseA hwba hbw HNM HNG HMM
  generalize w3.setCell ⟨m, 8, none⟩ (.slice A3 (np + 1) c3) = w4 at *
  obtain ⟨cs4, hcs4⟩ : ∃ cs4, cs4 = cs.setIfInBounds 8 (.slice A3 (np + 1) c3) := ⟨_, rfl⟩
  rw [← hcs4] at hm4
  have hw9 : wrap64 (cnt + hlen) = cnt + hlen := by unfold wrap64; omega
  have d9 : w4.cell? ⟨m, 9, none⟩ = some (.int .i64 cnt) := by rw [cell_of_row _ _ _ _ _ _ hm4, hcs4, Array.getElem?_setIfInBounds_ne (by decide)]; exact H9.out
  have f9 : w4.frozen? ⟨m, 9, none⟩ = false := frozen_of_row _ _ _ _ _ hm4
  have d2 : w4.cell? ⟨w.heap.size, 2, none⟩ = some (.int .i64 hlen) := by rw [cell_of_row _ _ _ _ _ _ hg4]; rfl
  have HCS := hid hcs4
  clear hcs4
  go_region
  have hm5 : (w4.setCell ⟨m, 9, none⟩ (.int .i64 (cnt + hlen))).drew.heap[m]? = _ := heap_setCell_same w4 m 9 cs4 t (.int .i64 (cnt + hlen)) hm4
  have hg5 : (w4.setCell ⟨m, 9, none⟩ (.int .i64 (cnt + hlen))).drew.heap[w.heap.size]? = _ := (heap_setCell_other w4 ⟨m, 9, none⟩ w.heap.size (.int .i64 (cnt + hlen)) (Ne.symm hmg)).trans hg4
  have hB5 : But (Only m) w4 (w4.setCell ⟨m, 9, none⟩ (.int .i64 (cnt + hlen))).drew := ⟨rfl, rfl, rfl, by simp [World.setCell], fun b _ hb => heap_setCell_other w4 _ b _ (fun h => hb h)⟩
  have hown5 := own_but hown4 hB5 (fun k hk hh => own_other hown4 hm4 ht (by have h2 : k = m := hh; rw [← h2]; exact hk))
  have hR5 := hid (hR4.out.trans hB5 (fun n h => .inl (.inl h)))
  clear hB5 hown4 hm4 hg4 hR4 d9 f9 d2 hw9
  generalize (w4.setCell ⟨m, 9, none⟩ (.int .i64 (cnt + hlen))).drew = w5 at *
  obtain ⟨cs5, hcs5⟩ : ∃ cs5, cs5 = cs4.setIfInBounds 9 (.int .i64 (cnt + hlen)) := ⟨_, rfl⟩
  rw [← hcs5] at hm5
  have d5 : w5.cell? ⟨m, 5, none⟩ = some (.int .i64 ibl) := by rw [cell_of_row _ _ _ _ _ _ hm5, hcs5, Array.getElem?_setIfInBounds_ne (by decide), HCS.out, Array.getElem?_setIfInBounds_ne (by decide)]; exact H5.out
  have f10 : w5.frozen? ⟨m, 10, none⟩ = false := frozen_of_row _ _ _ _ _ hm5
  have d10 : w5.cell? ⟨m, 10, none⟩ = some (.bool short) := by rw [cell_of_row _ _ _ _ _ _ hm5, hcs5, Array.getElem?_setIfInBounds_ne (by decide), HCS.out, Array.getElem?_setIfInBounds_ne (by decide)]; exact H10.out
  have d2 : w5.cell? ⟨w.heap.size, 2, none⟩ = some (.int .i64 hlen) := by rw [cell_of_row _ _ _ _ _ _ hg5]; rfl
  have HCS5 := hid hcs5
  clear hcs5
  go_wp2_with fail
  go_region
  have hm6 : (w5.setCell ⟨m, 10, none⟩ (.bool (decide (hlen < ibl)))).drew.heap[m]? = _ := heap_setCell_same w5 m 10 cs5 t (.bool (decide (hlen < ibl))) hm5
  have hB6 : But (Only m) w5 (w5.setCell ⟨m, 10, none⟩ (.bool (decide (hlen < ibl)))).drew := ⟨rfl, rfl, rfl, by simp [World.setCell], fun b _ hb => heap_setCell_other w5 _ b _ (fun h => hb h)⟩
  have hown6 := own_but hown5 hB6 (fun k hk hh => own_other hown5 hm5 ht (by have h2 : k = m := hh; rw [← h2]; exact hk))
  have hR6 := hR5.out.trans hB6 (fun n h => .inl (.inl h))
  have hfin : MNext base m cs t pl Ap cp at_ (cnt + hlen) (decide (hlen < ibl)) w (.returned (.int .i64 0)) (w5.setCell ⟨m, 10, none⟩ (.bool (decide (hlen < ibl)))).drew := by
    have e := HPL.out
    subst e
    refine ⟨rfl, A3, c3, ?_, hown6, hR6, HAT.out⟩
    rw [hm6, HCS5.out, HCS.out]
  clear hm6 hB6 hown6 hR6 hown5 hR5 hm5 hg5 d5 f10 d10 d2
  go_wp2_with fail
  go_ret
  exact hfin
end Go.Proofs.YtkmhmehofipehaaDoor
/- Which head may be, by the reference. -/
namespace Go.Proofs.YtkmhmehofipehaaDoor
set_option linter.unusedVariables false
open Go.RowKit
set_option maxHeartbeats 4000000 in
theorem hrright_any (k idx len stp bnd : Int) (lst : Bool) (lnk siz : Int) (w : World) :
    Calls Tryd.prog 33 #[.agg #[.int .i64 k, .int .i64 idx, .int .i64 len, .int .i64 stp, .int .i64 bnd, .bool lst, .int .u32 lnk, .int .i64 siz]] w fun e w' => e = .returned (.bool (rightH k idx len stp bnd lst lnk siz)) ∧ Below w.heap.size w w' := by
  have hb : Below w.heap.size w (w.alloc (.cells #[.int .i64 k, .int .i64 idx, .int .i64 len, .int .i64 stp, .int .i64 bnd, .bool lst, .int .u32 lnk, .int .i64 siz] 52)) := (Below.refl _ w).alloc (Nat.le_refl _) _
  by_cases a0 : k < 1
  · have e0 : decide (k < 1) = true := by simpa using a0
    have HX : Hid (rightH k idx len stp bnd lst lnk siz = false) := hid (decide_eq_false (fun h => by have := (h.1).1; omega))
    clear a0
    go_enter Tryd.func33, Tryd.ntmps33
    go_wp2_with fail
    go_ret
    exact ⟨ret_bool HX.out.symm, hb⟩
  have e0 : decide (k < 1) = false := by simpa using a0
  by_cases b0 : 3 < k
  · have g0 : decide (3 < k) = true := by simpa using b0
    have HX : Hid (rightH k idx len stp bnd lst lnk siz = false) := hid (decide_eq_false (fun h => by have := (h.1).2; omega))
    clear b0
    go_enter Tryd.func33, Tryd.ntmps33
    go_wp2_with fail
    go_ret
    exact ⟨ret_bool HX.out.symm, hb⟩
  have g0 : decide (3 < k) = false := by simpa using b0
  have H0 : Hid (1 ≤ k ∧ k ≤ 3) := hid (by omega)
  clear a0 b0
  by_cases a1 : idx < 0
  · have e1 : decide (idx < 0) = true := by simpa using a1
    have HX : Hid (rightH k idx len stp bnd lst lnk siz = false) := hid (decide_eq_false (fun h => by have := (h.2.1).1; omega))
    clear a1
    go_enter Tryd.func33, Tryd.ntmps33
    go_wp2_with fail
    go_ret
    exact ⟨ret_bool HX.out.symm, hb⟩
  have e1 : decide (idx < 0) = false := by simpa using a1
  by_cases b1 : 4294967295 < idx
  · have g1 : decide (4294967295 < idx) = true := by simpa using b1
    have HX : Hid (rightH k idx len stp bnd lst lnk siz = false) := hid (decide_eq_false (fun h => by have := (h.2.1).2; omega))
    clear b1
    go_enter Tryd.func33, Tryd.ntmps33
    go_wp2_with fail
    go_ret
    exact ⟨ret_bool HX.out.symm, hb⟩
  have g1 : decide (4294967295 < idx) = false := by simpa using b1
  have H1 : Hid (0 ≤ idx ∧ idx ≤ 4294967295) := hid (by omega)
  clear a1 b1
  by_cases a2 : len < 1
  · have e2 : decide (len < 1) = true := by simpa using a2
    have HX : Hid (rightH k idx len stp bnd lst lnk siz = false) := hid (decide_eq_false (fun h => by have := (h.2.2.1).1; omega))
    clear a2
    go_enter Tryd.func33, Tryd.ntmps33
    go_wp2_with fail
    go_ret
    exact ⟨ret_bool HX.out.symm, hb⟩
  have e2 : decide (len < 1) = false := by simpa using a2
  by_cases b2 : 65536 < len
  · have g2 : decide (65536 < len) = true := by simpa using b2
    have HX : Hid (rightH k idx len stp bnd lst lnk siz = false) := hid (decide_eq_false (fun h => by have := (h.2.2.1).2; omega))
    clear b2
    go_enter Tryd.func33, Tryd.ntmps33
    go_wp2_with fail
    go_ret
    exact ⟨ret_bool HX.out.symm, hb⟩
  have g2 : decide (65536 < len) = false := by simpa using b2
  have H2 : Hid (1 ≤ len ∧ len ≤ 65536) := hid (by omega)
  clear a2 b2
  by_cases a3 : stp < 1
  · have e3 : decide (stp < 1) = true := by simpa using a3
    have HX : Hid (rightH k idx len stp bnd lst lnk siz = false) := hid (decide_eq_false (fun h => by have := (h.2.2.2.1).1; omega))
    clear a3
    go_enter Tryd.func33, Tryd.ntmps33
    go_wp2_with fail
    go_ret
    exact ⟨ret_bool HX.out.symm, hb⟩
  have e3 : decide (stp < 1) = false := by simpa using a3
  by_cases b3 : 2147483648 < stp
  · have g3 : decide (2147483648 < stp) = true := by simpa using b3
    have HX : Hid (rightH k idx len stp bnd lst lnk siz = false) := hid (decide_eq_false (fun h => by have := (h.2.2.2.1).2; omega))
    clear b3
    go_enter Tryd.func33, Tryd.ntmps33
    go_wp2_with fail
    go_ret
    exact ⟨ret_bool HX.out.symm, hb⟩
  have g3 : decide (2147483648 < stp) = false := by simpa using b3
  have H3 : Hid (1 ≤ stp ∧ stp ≤ 2147483648) := hid (by omega)
  by_cases a4 : bnd < 0
  · have e4 : decide (bnd < 0) = true := by simpa using a4
    have HX : Hid (rightH k idx len stp bnd lst lnk siz = false) := hid (decide_eq_false (fun h => by have := (h.2.2.2.2.1).1; omega))
    clear a4
    go_enter Tryd.func33, Tryd.ntmps33
    go_wp2_with fail
    go_ret
    exact ⟨ret_bool HX.out.symm, hb⟩
  have e4 : decide (bnd < 0) = false := by simpa using a4
  by_cases b4 : stp / 2 < bnd
  · have g4 : decide (stp / 2 < bnd) = true := by simpa using b4
    have HX : Hid (rightH k idx len stp bnd lst lnk siz = false) := hid (decide_eq_false (fun h => by have := (h.2.2.2.2.1).2; omega))
    clear b4
    go_enter Tryd.func33, Tryd.ntmps33
    go_wp2_with fail
    go_ret
    exact ⟨ret_bool HX.out.symm, hb⟩
  have g4 : decide (stp / 2 < bnd) = false := by simpa using b4
  have H4 : Hid (0 ≤ bnd ∧ bnd ≤ (stp / 2)) := hid (by omega)
  clear a4 b4
  by_cases a5 : siz < 0
  · have e5 : decide (siz < 0) = true := by simpa using a5
    have HX : Hid (rightH k idx len stp bnd lst lnk siz = false) := hid (decide_eq_false (fun h => by have := (h.2.2.2.2.2.1).1; omega))
    clear a5
    go_enter Tryd.func33, Tryd.ntmps33
    go_wp2_with fail
    go_ret
    exact ⟨ret_bool HX.out.symm, hb⟩
  have e5 : decide (siz < 0) = false := by simpa using a5
  by_cases b5 : 16777216 < siz
  · have g5 : decide (16777216 < siz) = true := by simpa using b5
    have HX : Hid (rightH k idx len stp bnd lst lnk siz = false) := hid (decide_eq_false (fun h => by have := (h.2.2.2.2.2.1).2; omega))
    clear b5
    go_enter Tryd.func33, Tryd.ntmps33
    go_wp2_with fail
    go_ret
    exact ⟨ret_bool HX.out.symm, hb⟩
  have g5 : decide (16777216 < siz) = false := by simpa using b5
  have H5 : Hid (0 ≤ siz ∧ siz ≤ 16777216) := hid (by omega)
  clear a5 b5
  cases lst with
  | false =>
    by_cases n0 : lnk = 0
    · have f4 : (lnk == 0) = true := by simpa using n0
      have N0 := hid n0
      clear n0
      by_cases s1 : stp = 1
      · have f5 : (stp == 1) = true := by simpa using s1
        have S1 := hid s1
        clear s1
        have HX : Hid (rightH k idx len stp bnd false lnk siz = true) := hid (decide_eq_true (⟨H0.out, H1.out, H2.out, H3.out, H4.out, H5.out, (fun h => absurd h (by decide)), (fun h => absurd N0.out h), (fun h => absurd S1.out h)⟩))
        go_enter Tryd.func33, Tryd.ntmps33
        go_wp2_with fail
        go_ret
        exact ⟨ret_bool HX.out.symm, hb⟩
      have f5 : (stp == 1) = false := by simpa using s1
      by_cases s3 : k = 3
      · have f3 : (k != 3) = false := by simpa using s3
        have S3 := hid s3
        have S1 := hid s1
        clear s3 s1
        have HX : Hid (rightH k idx len stp bnd false lnk siz = false) := hid (decide_eq_false (fun h => h.2.2.2.2.2.2.2.2 S1.out S3.out))
        go_enter Tryd.func33, Tryd.ntmps33
        go_wp2_with fail
        go_ret
        exact ⟨ret_bool HX.out.symm, hb⟩
      · have f3 : (k != 3) = true := by simpa using s3
        have S3 := hid s3
        clear s3 s1
        have HX : Hid (rightH k idx len stp bnd false lnk siz = true) := hid (decide_eq_true (⟨H0.out, H1.out, H2.out, H3.out, H4.out, H5.out, (fun h => absurd h (by decide)), (fun h => absurd N0.out h), (fun _ => S3.out)⟩))
        go_enter Tryd.func33, Tryd.ntmps33
        go_wp2_with fail
        go_ret
        exact ⟨ret_bool HX.out.symm, hb⟩
    have f4 : (lnk == 0) = false := by simpa using n0
    by_cases n2 : k = 2
    · have f2 : (k == 2) = true := by simpa using n2
      have N2 := hid n2
      clear n2 n0
      by_cases s1 : stp = 1
      · have f5 : (stp == 1) = true := by simpa using s1
        have S1 := hid s1
        clear s1
        have HX : Hid (rightH k idx len stp bnd false lnk siz = true) := hid (decide_eq_true (⟨H0.out, H1.out, H2.out, H3.out, H4.out, H5.out, (fun h => absurd h (by decide)), (fun _ => N2.out), (fun h => absurd S1.out h)⟩))
        go_enter Tryd.func33, Tryd.ntmps33
        go_wp2_with fail
        go_ret
        exact ⟨ret_bool HX.out.symm, hb⟩
      have f5 : (stp == 1) = false := by simpa using s1
      by_cases s3 : k = 3
      · have f3 : (k != 3) = false := by simpa using s3
        have S3 := hid s3
        have S1 := hid s1
        clear s3 s1
        have HX : Hid (rightH k idx len stp bnd false lnk siz = false) := hid (decide_eq_false (fun h => h.2.2.2.2.2.2.2.2 S1.out S3.out))
        go_enter Tryd.func33, Tryd.ntmps33
        go_wp2_with fail
        go_ret
        exact ⟨ret_bool HX.out.symm, hb⟩
      · have f3 : (k != 3) = true := by simpa using s3
        have S3 := hid s3
        clear s3 s1
        have HX : Hid (rightH k idx len stp bnd false lnk siz = true) := hid (decide_eq_true (⟨H0.out, H1.out, H2.out, H3.out, H4.out, H5.out, (fun h => absurd h (by decide)), (fun _ => N2.out), (fun _ => S3.out)⟩))
        go_enter Tryd.func33, Tryd.ntmps33
        go_wp2_with fail
        go_ret
        exact ⟨ret_bool HX.out.symm, hb⟩
    · have f2 : (k == 2) = false := by simpa using n2
      have N2 := hid n2
      have N0 := hid n0
      clear n2 n0
      have HX : Hid (rightH k idx len stp bnd false lnk siz = false) := hid (decide_eq_false (fun h => N2.out (h.2.2.2.2.2.2.2.1 N0.out)))
      go_enter Tryd.func33, Tryd.ntmps33
      go_wp2_with fail
      go_ret
      exact ⟨ret_bool HX.out.symm, hb⟩
  | true =>
    by_cases l1 : k = 1
    · have f1 : (k == 1) = true := by simpa using l1
      have L1 := hid l1
      clear l1
      by_cases n0 : lnk = 0
      · have f4 : (lnk == 0) = true := by simpa using n0
        have N0 := hid n0
        clear n0
        by_cases s1 : stp = 1
        · have f5 : (stp == 1) = true := by simpa using s1
          have S1 := hid s1
          clear s1
          have HX : Hid (rightH k idx len stp bnd true lnk siz = true) := hid (decide_eq_true (⟨H0.out, H1.out, H2.out, H3.out, H4.out, H5.out, (fun _ => L1.out), (fun h => absurd N0.out h), (fun h => absurd S1.out h)⟩))
          go_enter Tryd.func33, Tryd.ntmps33
          go_wp2_with fail
          go_ret
          exact ⟨ret_bool HX.out.symm, hb⟩
        have f5 : (stp == 1) = false := by simpa using s1
        by_cases s3 : k = 3
        · have f3 : (k != 3) = false := by simpa using s3
          have S3 := hid s3
          have S1 := hid s1
          clear s3 s1
          have HX : Hid (rightH k idx len stp bnd true lnk siz = false) := hid (decide_eq_false (fun h => h.2.2.2.2.2.2.2.2 S1.out S3.out))
          go_enter Tryd.func33, Tryd.ntmps33
          go_wp2_with fail
          go_ret
          exact ⟨ret_bool HX.out.symm, hb⟩
        · have f3 : (k != 3) = true := by simpa using s3
          have S3 := hid s3
          clear s3 s1
          have HX : Hid (rightH k idx len stp bnd true lnk siz = true) := hid (decide_eq_true (⟨H0.out, H1.out, H2.out, H3.out, H4.out, H5.out, (fun _ => L1.out), (fun h => absurd N0.out h), (fun _ => S3.out)⟩))
          go_enter Tryd.func33, Tryd.ntmps33
          go_wp2_with fail
          go_ret
          exact ⟨ret_bool HX.out.symm, hb⟩
      have f4 : (lnk == 0) = false := by simpa using n0
      by_cases n2 : k = 2
      · have f2 : (k == 2) = true := by simpa using n2
        have N2 := hid n2
        clear n2 n0
        by_cases s1 : stp = 1
        · have f5 : (stp == 1) = true := by simpa using s1
          have S1 := hid s1
          clear s1
          have HX : Hid (rightH k idx len stp bnd true lnk siz = true) := hid (decide_eq_true (⟨H0.out, H1.out, H2.out, H3.out, H4.out, H5.out, (fun _ => L1.out), (fun _ => N2.out), (fun h => absurd S1.out h)⟩))
          go_enter Tryd.func33, Tryd.ntmps33
          go_wp2_with fail
          go_ret
          exact ⟨ret_bool HX.out.symm, hb⟩
        have f5 : (stp == 1) = false := by simpa using s1
        by_cases s3 : k = 3
        · have f3 : (k != 3) = false := by simpa using s3
          have S3 := hid s3
          have S1 := hid s1
          clear s3 s1
          have HX : Hid (rightH k idx len stp bnd true lnk siz = false) := hid (decide_eq_false (fun h => h.2.2.2.2.2.2.2.2 S1.out S3.out))
          go_enter Tryd.func33, Tryd.ntmps33
          go_wp2_with fail
          go_ret
          exact ⟨ret_bool HX.out.symm, hb⟩
        · have f3 : (k != 3) = true := by simpa using s3
          have S3 := hid s3
          clear s3 s1
          have HX : Hid (rightH k idx len stp bnd true lnk siz = true) := hid (decide_eq_true (⟨H0.out, H1.out, H2.out, H3.out, H4.out, H5.out, (fun _ => L1.out), (fun _ => N2.out), (fun _ => S3.out)⟩))
          go_enter Tryd.func33, Tryd.ntmps33
          go_wp2_with fail
          go_ret
          exact ⟨ret_bool HX.out.symm, hb⟩
      · have f2 : (k == 2) = false := by simpa using n2
        have N2 := hid n2
        have N0 := hid n0
        clear n2 n0
        have HX : Hid (rightH k idx len stp bnd true lnk siz = false) := hid (decide_eq_false (fun h => N2.out (h.2.2.2.2.2.2.2.1 N0.out)))
        go_enter Tryd.func33, Tryd.ntmps33
        go_wp2_with fail
        go_ret
        exact ⟨ret_bool HX.out.symm, hb⟩
    · have f1 : (k == 1) = false := by simpa using l1
      have L1 := hid l1
      clear l1
      have HX : Hid (rightH k idx len stp bnd true lnk siz = false) := hid (decide_eq_false (fun h => L1.out (h.2.2.2.2.2.2.1 rfl)))
      go_enter Tryd.func33, Tryd.ntmps33
      go_wp2_with fail
      go_ret
      exact ⟨ret_bool HX.out.symm, hb⟩
end Go.Proofs.YtkmhmehofipehaaDoor
/- The reference's value of a field's bytes. -/
namespace Go.Proofs.YtkmhmehofipehaaDoor
set_option linter.unusedVariables false
open Go.RowKit
theorem valLE_cons (b : UInt8) (l : List UInt8) : valLE (b :: l) = b.toNat + 256 * valLE l := rfl
theorem valLE_drop (l : List UInt8) (k : Nat) (h : k < l.length) : valLE (l.drop k) = l[k].toNat + 256 * valLE (l.drop (k + 1)) := by
  rw [List.drop_eq_getElem_cons h, valLE_cons]
set_option maxHeartbeats 1000000 in
theorem rvalue_any (A : Option Addr) (c : Nat) (l : List UInt8) (w : World) (hl : SeesB w A l) (hlen : l.length ≤ 8) :
    Calls Tryd.prog 83 #[.slice A l.length c] w fun e w' => e = .returned (.int .u64 (valLE l : Nat)) ∧ w = w' := by
  go_enter Tryd.func83, Tryd.ntmps83
  go_wp2_with fail
  go_loop [3, 4] (fun v i => ∃ k : Nat, k ≤ l.length ∧ i = .int .i64 ((k : Int) - 1) ∧ v = .int .u64 (valLE (l.drop k) : Nat)) (fun _ i => (intOf i + 1).toNat)
  case atStart => exact ⟨l.length, Nat.le_refl _, by simp; try omega, by simp [valLE]⟩
  case round =>
    obtain ⟨k, hk, rfl, rfl⟩ := hrel
    by_cases h0 : k = 0
    · subst h0
      rw [List.drop_zero, show ((0 : Nat) : Int) - 1 = -1 from rfl]
      go_wp2_with fail
      go_ret
      exact ⟨rfl, rfl⟩
    · obtain ⟨j, hj⟩ : ∃ j, k = j + 1 := ⟨k - 1, by omega⟩
      subst hj
      have hjl : j < l.length := by omega
      obtain ⟨a, rfl, hc⟩ := hl.at hjl
      have hbl := byte_lt l[j]
      have hb0 : 0 ≤ (l[j].toNat : Int) := by omega
      have hvl := valLE_lt (l.drop (j + 1))
      have hdl : (l.drop (j + 1)).length ≤ 7 := by simp; omega
      have hp := Nat.pow_le_pow_right (show 0 < 256 by omega) hdl
      have HV := hid (valLE_drop l j hjl)
      generalize valLE (l.drop (j + 1)) = V at *
      have hV : V < 72057594037927936 := by omega
      have e1 : ((j + 1 : Nat) : Int) - 1 = (j : Int) := by omega
      rw [e1]
      have hd : decide (0 ≤ (j : Int)) = true := by simp
      clear hvl hp e1 h0
      go_wp2_with fail
      refine ⟨⟨j, by omega, rfl, ?_⟩, ?_⟩
      · rw [HV.out, show ((l[j].toNat + 256 * V : Nat) : Int) = 256 * (V : Int) + l[j].toNat by omega]
      · show ((j : Int) - 1 + 1).toNat < ((j : Int) + 1).toNat
        omega
end Go.Proofs.YtkmhmehofipehaaDoor
/- A head read: the reference's At and Get. -/
namespace Go.Proofs.YtkmhmehofipehaaDoor
set_option linter.unusedVariables false
open Go.RowKit
set_option maxHeartbeats 2000000 in
theorem hrat_any (a : Addr) (c : Nat) (l : List UInt8) (k : Nat) (w : World) (hl : SeesB w (some a) l) (hk : k + 4 ≤ l.length) (hc : l.length ≤ c) (hcm : c ≤ maxLen) :
    Calls Tryd.prog 55 #[.slice (some a) l.length c, .int .i64 k] w fun e w' => e = .returned (.int .i64 (fldH l k 4 : Nat)) ∧ w = w' := by
  have hcut : SeesB w (some (a.add k)) ((l.drop k).take 4) := hl.cutTo k 4
  have h4 : ((l.drop k).take 4).length = 4 := by simp; omega
  have hv := rvalue_any (some (a.add k)) (c - k) ((l.drop k).take 4) w hcut (by omega)
  rw [h4, show valLE ((l.drop k).take 4) = fldH l k 4 from rfl] at hv
  have v : fldH l k 4 < 4294967296 := fldH_lt l k 4
  generalize fldH l k 4 = y at *
  have HV := hid hv
  have g1 : (k : Int) + 4 ≤ c := by omega
  have g2 : ¬ c = k := by omega
  have g3 : (k : Int) + 4 ≤ l.length := by omega
  have g4 : (l.length : Int) ≤ c := by omega
  have g5 : (k : Int) ≤ (k : Int) + 4 := by omega
  have hcm' : (c : Int) ≤ 9223372036854775807 := by unfold maxLen at hcm; omega
  clear hcut h4 hv
  go_enter Tryd.func55, Tryd.ntmps55
  go_wp2_with fail
  simp only [show k + 4 - k = 4 by omega]
  refine HV.out.mono ?_
  rintro e w1 ⟨rfl, rfl⟩
  go_wp2_with fail
  go_ret
  exact ⟨rfl, rfl⟩
set_option maxHeartbeats 2000000 in
theorem hrget_sync0 (A : Option Addr) (c : Nat) (l : List UInt8) (w : World) (hl : SeesB w A l) (h0 : 0 < l.length) (hx : ((l[0].toNat : Int) != 222) = true) :
    Calls Tryd.prog 54 #[.slice A l.length c] w (GetHPost w (30, HeadV.zero)) := by
  have hb : Below w.heap.size w (w.alloc (.cells #[.int .i64 0, .int .i64 0, .int .i64 0, .int .i64 0, .int .i64 0, .bool false, .int .u32 0, .int .i64 0] 52)) := (Below.refl _ w).alloc (Nat.le_refl _) _
  have hrow := heap_alloc_new w (.cells #[.int .i64 0, .int .i64 0, .int .i64 0, .int .i64 0, .int .i64 0, .bool false, .int .u32 0, .int .i64 0] 52)
  obtain ⟨a, rfl, _⟩ := hl.at (show 0 < l.length by omega)
  obtain ⟨a0, ha0, b0⟩ := (hl.below hb).at (show 0 < l.length by omega)
  injection ha0 with ha0
  subst ha0
  have q0 : (w.alloc (.cells #[.int .i64 0, .int .i64 0, .int .i64 0, .int .i64 0, .int .i64 0, .bool false, .int .u32 0, .int .i64 0] 52)).cell? a = some (.int .u8 (l[0].toNat : Int)) := b0
  clear b0
  have d0 : decide (0 < (l.length : Int)) = true := by simp; omega
  have d0' : (0 : Int) < (l.length : Int) := by omega
  go_enter Tryd.func54, Tryd.ntmps54
  go_wp2_with first | (refine wpList_store_row rfl 52 (.tmp 2) (.tmp 25) rfl rfl w.heap.size rfl #[.int .i64 0, .int .i64 0, .int .i64 0, .int .i64 0, .int .i64 0, .bool false, .int .u32 0, .int .i64 0] rfl 52 #[.int .i64 0, .int .i64 0, .int .i64 0, .int .i64 0, .int .i64 0, .bool false, .int .u32 0, .int .i64 0] hrow (by kernel_rfl) rfl (by simp [Value.oneCell']) ?_)
  exact bodyPost_ret (v := .tuple #[.agg #[.int .i64 0, .int .i64 0, .int .i64 0, .int .i64 0, .int .i64 0, .bool false, .int .u32 0, .int .i64 0], .int .i64 30]) (results_row_tmp (fn := Tryd.f54) (p := 2) (u := 3) (ty := 52) rfl _ _ w.heap.size _ _ _ _ rfl (setRow_heap _ _ _ _ _ _ hrow) Tryd.underlying52 rfl (by kernel_rfl)) rfl ⟨rfl, below_setRow hb (Nat.le_refl _) _⟩
set_option maxHeartbeats 2000000 in
theorem hrget_sync1 (A : Option Addr) (c : Nat) (l : List UInt8) (w : World) (hl : SeesB w A l) (h0 : 1 < l.length) (hx : ((l[0].toNat : Int) != 222) = false) (hy : ((l[1].toNat : Int) != 92) = true) :
    Calls Tryd.prog 54 #[.slice A l.length c] w (GetHPost w (30, HeadV.zero)) := by
  have hb : Below w.heap.size w (w.alloc (.cells #[.int .i64 0, .int .i64 0, .int .i64 0, .int .i64 0, .int .i64 0, .bool false, .int .u32 0, .int .i64 0] 52)) := (Below.refl _ w).alloc (Nat.le_refl _) _
  have hrow := heap_alloc_new w (.cells #[.int .i64 0, .int .i64 0, .int .i64 0, .int .i64 0, .int .i64 0, .bool false, .int .u32 0, .int .i64 0] 52)
  obtain ⟨a, rfl, _⟩ := hl.at (show 0 < l.length by omega)
  obtain ⟨a0, ha0, b0⟩ := (hl.below hb).at (show 0 < l.length by omega)
  injection ha0 with ha0
  subst ha0
  have q0 : (w.alloc (.cells #[.int .i64 0, .int .i64 0, .int .i64 0, .int .i64 0, .int .i64 0, .bool false, .int .u32 0, .int .i64 0] 52)).cell? a = some (.int .u8 (l[0].toNat : Int)) := b0
  clear b0
  obtain ⟨a1, ha1, b1⟩ := (hl.below hb).at (show 1 < l.length by omega)
  injection ha1 with ha1
  subst ha1
  have q1 : (w.alloc (.cells #[.int .i64 0, .int .i64 0, .int .i64 0, .int .i64 0, .int .i64 0, .bool false, .int .u32 0, .int .i64 0] 52)).cell? { block := a.block, off := a.off + 1 } = some (.int .u8 (l[1].toNat : Int)) := b1
  clear b1
  have d0 : decide (0 < (l.length : Int)) = true := by simp; omega
  have d0' : (0 : Int) < (l.length : Int) := by omega
  have d1 : decide (1 < (l.length : Int)) = true := by simp; omega
  have d1' : (1 : Int) < (l.length : Int) := by omega
  go_enter Tryd.func54, Tryd.ntmps54
  go_wp2_with first | (refine wpList_store_row rfl 52 (.tmp 2) (.tmp 25) rfl rfl w.heap.size rfl #[.int .i64 0, .int .i64 0, .int .i64 0, .int .i64 0, .int .i64 0, .bool false, .int .u32 0, .int .i64 0] rfl 52 #[.int .i64 0, .int .i64 0, .int .i64 0, .int .i64 0, .int .i64 0, .bool false, .int .u32 0, .int .i64 0] hrow (by kernel_rfl) rfl (by simp [Value.oneCell']) ?_)
  exact bodyPost_ret (v := .tuple #[.agg #[.int .i64 0, .int .i64 0, .int .i64 0, .int .i64 0, .int .i64 0, .bool false, .int .u32 0, .int .i64 0], .int .i64 30]) (results_row_tmp (fn := Tryd.f54) (p := 2) (u := 3) (ty := 52) rfl _ _ w.heap.size _ _ _ _ rfl (setRow_heap _ _ _ _ _ _ hrow) Tryd.underlying52 rfl (by kernel_rfl)) rfl ⟨rfl, below_setRow hb (Nat.le_refl _) _⟩
set_option maxHeartbeats 2000000 in
theorem hrget_end0 (A : Option Addr) (c : Nat) (l : List UInt8) (w : World) (hl : SeesB w A l) (h0 : l.length = 0) :
    Calls Tryd.prog 54 #[.slice A l.length c] w (GetHPost w (10, HeadV.zero)) := by
  have hb : Below w.heap.size w (w.alloc (.cells #[.int .i64 0, .int .i64 0, .int .i64 0, .int .i64 0, .int .i64 0, .bool false, .int .u32 0, .int .i64 0] 52)) := (Below.refl _ w).alloc (Nat.le_refl _) _
  have hrow := heap_alloc_new w (.cells #[.int .i64 0, .int .i64 0, .int .i64 0, .int .i64 0, .int .i64 0, .bool false, .int .u32 0, .int .i64 0] 52)
  obtain rfl : l = [] := List.length_eq_zero_iff.1 h0
  clear h0 hl
  rw [List.length_nil]
  go_enter Tryd.func54, Tryd.ntmps54
  go_wp2_with first | (refine wpList_store_row rfl 52 (.tmp 2) (.tmp 29) rfl rfl w.heap.size rfl #[.int .i64 0, .int .i64 0, .int .i64 0, .int .i64 0, .int .i64 0, .bool false, .int .u32 0, .int .i64 0] rfl 52 #[.int .i64 0, .int .i64 0, .int .i64 0, .int .i64 0, .int .i64 0, .bool false, .int .u32 0, .int .i64 0] hrow (by kernel_rfl) rfl (by simp [Value.oneCell']) ?_)
  exact bodyPost_ret (v := .tuple #[.agg #[.int .i64 0, .int .i64 0, .int .i64 0, .int .i64 0, .int .i64 0, .bool false, .int .u32 0, .int .i64 0], .int .i64 10]) (results_row_tmp (fn := Tryd.f54) (p := 2) (u := 3) (ty := 52) rfl _ _ w.heap.size _ _ _ _ rfl (setRow_heap _ _ _ _ _ _ hrow) Tryd.underlying52 rfl (by kernel_rfl)) rfl ⟨rfl, below_setRow hb (Nat.le_refl _) _⟩
set_option maxHeartbeats 2000000 in
theorem hrget_end1 (A : Option Addr) (c : Nat) (l : List UInt8) (w : World) (hl : SeesB w A l) (h0 : 0 < l.length) (h1 : ¬ 1 < l.length) (hx : ((l[0].toNat : Int) != 222) = false) :
    Calls Tryd.prog 54 #[.slice A l.length c] w (GetHPost w (10, HeadV.zero)) := by
  have hb : Below w.heap.size w (w.alloc (.cells #[.int .i64 0, .int .i64 0, .int .i64 0, .int .i64 0, .int .i64 0, .bool false, .int .u32 0, .int .i64 0] 52)) := (Below.refl _ w).alloc (Nat.le_refl _) _
  have hrow := heap_alloc_new w (.cells #[.int .i64 0, .int .i64 0, .int .i64 0, .int .i64 0, .int .i64 0, .bool false, .int .u32 0, .int .i64 0] 52)
  obtain ⟨a, rfl, _⟩ := hl.at (show 0 < l.length by omega)
  obtain ⟨a0, ha0, b0⟩ := (hl.below hb).at (show 0 < l.length by omega)
  injection ha0 with ha0
  subst ha0
  have q0 : (w.alloc (.cells #[.int .i64 0, .int .i64 0, .int .i64 0, .int .i64 0, .int .i64 0, .bool false, .int .u32 0, .int .i64 0] 52)).cell? a = some (.int .u8 (l[0].toNat : Int)) := b0
  clear b0
  have d0 : decide (0 < (l.length : Int)) = true := by simp; omega
  have d0' : (0 : Int) < (l.length : Int) := by omega
  have d1 : decide (1 < (l.length : Int)) = false := by simp; omega
  have d2 : decide ((l.length : Int) < 32) = true := by simp; omega
  go_enter Tryd.func54, Tryd.ntmps54
  go_wp2_with first | (refine wpList_store_row rfl 52 (.tmp 2) (.tmp 29) rfl rfl w.heap.size rfl #[.int .i64 0, .int .i64 0, .int .i64 0, .int .i64 0, .int .i64 0, .bool false, .int .u32 0, .int .i64 0] rfl 52 #[.int .i64 0, .int .i64 0, .int .i64 0, .int .i64 0, .int .i64 0, .bool false, .int .u32 0, .int .i64 0] hrow (by kernel_rfl) rfl (by simp [Value.oneCell']) ?_)
  exact bodyPost_ret (v := .tuple #[.agg #[.int .i64 0, .int .i64 0, .int .i64 0, .int .i64 0, .int .i64 0, .bool false, .int .u32 0, .int .i64 0], .int .i64 10]) (results_row_tmp (fn := Tryd.f54) (p := 2) (u := 3) (ty := 52) rfl _ _ w.heap.size _ _ _ _ rfl (setRow_heap _ _ _ _ _ _ hrow) Tryd.underlying52 rfl (by kernel_rfl)) rfl ⟨rfl, below_setRow hb (Nat.le_refl _) _⟩
set_option maxHeartbeats 2000000 in
theorem hrget_end2 (A : Option Addr) (c : Nat) (l : List UInt8) (w : World) (hl : SeesB w A l) (h1 : 1 < l.length) (hx : ((l[0].toNat : Int) != 222) = false) (hy : ((l[1].toNat : Int) != 92) = false) (hn : l.length < 32) :
    Calls Tryd.prog 54 #[.slice A l.length c] w (GetHPost w (10, HeadV.zero)) := by
  have hb : Below w.heap.size w (w.alloc (.cells #[.int .i64 0, .int .i64 0, .int .i64 0, .int .i64 0, .int .i64 0, .bool false, .int .u32 0, .int .i64 0] 52)) := (Below.refl _ w).alloc (Nat.le_refl _) _
  have hrow := heap_alloc_new w (.cells #[.int .i64 0, .int .i64 0, .int .i64 0, .int .i64 0, .int .i64 0, .bool false, .int .u32 0, .int .i64 0] 52)
  obtain ⟨a, rfl, _⟩ := hl.at (show 0 < l.length by omega)
  obtain ⟨a0, ha0, b0⟩ := (hl.below hb).at (show 0 < l.length by omega)
  injection ha0 with ha0
  subst ha0
  have q0 : (w.alloc (.cells #[.int .i64 0, .int .i64 0, .int .i64 0, .int .i64 0, .int .i64 0, .bool false, .int .u32 0, .int .i64 0] 52)).cell? a = some (.int .u8 (l[0].toNat : Int)) := b0
  clear b0
  obtain ⟨a1, ha1, b1⟩ := (hl.below hb).at (show 1 < l.length by omega)
  injection ha1 with ha1
  subst ha1
  have q1 : (w.alloc (.cells #[.int .i64 0, .int .i64 0, .int .i64 0, .int .i64 0, .int .i64 0, .bool false, .int .u32 0, .int .i64 0] 52)).cell? { block := a.block, off := a.off + 1 } = some (.int .u8 (l[1].toNat : Int)) := b1
  clear b1
  have d0 : decide (0 < (l.length : Int)) = true := by simp; omega
  have d0' : (0 : Int) < (l.length : Int) := by omega
  have d1 : decide (1 < (l.length : Int)) = true := by simp; omega
  have d1' : (1 : Int) < (l.length : Int) := by omega
  have d2 : decide ((l.length : Int) < 32) = true := by simp; omega
  go_enter Tryd.func54, Tryd.ntmps54
  go_wp2_with first | (refine wpList_store_row rfl 52 (.tmp 2) (.tmp 29) rfl rfl w.heap.size rfl #[.int .i64 0, .int .i64 0, .int .i64 0, .int .i64 0, .int .i64 0, .bool false, .int .u32 0, .int .i64 0] rfl 52 #[.int .i64 0, .int .i64 0, .int .i64 0, .int .i64 0, .int .i64 0, .bool false, .int .u32 0, .int .i64 0] hrow (by kernel_rfl) rfl (by simp [Value.oneCell']) ?_)
  exact bodyPost_ret (v := .tuple #[.agg #[.int .i64 0, .int .i64 0, .int .i64 0, .int .i64 0, .int .i64 0, .bool false, .int .u32 0, .int .i64 0], .int .i64 10]) (results_row_tmp (fn := Tryd.f54) (p := 2) (u := 3) (ty := 52) rfl _ _ w.heap.size _ _ _ _ rfl (setRow_heap _ _ _ _ _ _ hrow) Tryd.underlying52 rfl (by kernel_rfl)) rfl ⟨rfl, below_setRow hb (Nat.le_refl _) _⟩
end Go.Proofs.YtkmhmehofipehaaDoor
