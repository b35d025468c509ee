/- Rows of the call's own beside a maker. -/
import Derived.Test.YtllbemdeimgiiaaField
namespace Go.Proofs.Ytllbemdeimgiiaa
set_option linter.unusedVariables false
open Go.RowKit
/-- what an append of a row turns is that row alone -/
theorem But.of_grown {B : Nat} {w w' : World} {v : Value} (hg : w.grownBy w' v.ownBlock) (hb : Below B w w') : But (fun b => v.ownBlock = some b) w w' :=
  ⟨hb.os, hb.tape, hb.output, hb.size, fun n hn h => hg.block n hn (fun hh => h hh.symm)⟩
/-- a row of the call's own stays where others turn -/
theorem own_but {R : Nat → Prop} {w w' : World} {base n size : Nat} {e : TypeId} {v : Value} {xs : List Value} (h : w.ownsRow base e size v n xs) (hb : But R w w') (hR : ∀ k, v.ownBlock = some k → ¬ R k) : w'.ownsRow base e size v n xs := by
  refine ⟨h.1, ?_⟩
  rcases h.2 with h0 | ⟨g, cap, cur, hv, h1, h2, h3⟩
  · exact .inl h0
  · exact .inr ⟨g, cap, cur, hv, h1, (hb.block g (Array.getElem?_eq_some_iff.1 h2).1 (hR g (by rw [hv]; rfl))).trans h2, h3⟩
theorem own_lt {w : World} {base n size : Nat} {e : TypeId} {v : Value} {xs : List Value} (h : w.ownsRow base e size v n xs) {k : Nat} (hk : v.ownBlock = some k) : k < w.heap.size := by
  rcases h.2 with ⟨rfl, _⟩ | ⟨g, cap, cur, rfl, h1, h2, h3⟩
  · simp [Value.ownBlock] at hk
  · have : g = k := by simpa [Value.ownBlock] using hk
    subst this; exact (Array.getElem?_eq_some_iff.1 h2).1
/-- a maker and a row of the call's own, apart from one another -/
def Both (w : World) (base g : Nat) (R : Nat → Prop) (err : Int) (l : List UInt8) (e : TypeId) (v : Value) (n : Nat) (xs : List Value) : Prop :=
  Mk w g R err l ∧ w.ownsRow base e 1 v n xs ∧ (∀ k, v.ownBlock = some k → ¬ R k) ∧ (∀ k, R k → base ≤ k)
theorem Both.made {w w' : World} {base g : Nat} {R R' : Nat → Prop} {err err' : Int} {l l' : List UInt8} {e : TypeId} {v : Value} {n : Nat} {xs : List Value} (h : Both w base g R err l e v n xs)
    (hm : Mk w' g R' err' l') (hb : But R w w') (hR : ∀ b, R' b → R b ∨ w.heap.size ≤ b) (hB : base ≤ w.heap.size) : Both w' base g R' err' l' e v n xs := by
  obtain ⟨h1, h2, h3, h4⟩ := h
  refine ⟨hm, own_but h2 hb h3, fun k hk hr => ?_, fun k hr => ?_⟩
  · rcases hR k hr with h | h
    · exact h3 k hk h
    · have := own_lt h2 hk; omega
  · rcases hR k hr with h | h
    · exact h4 k h
    · omega
theorem Both.app {w w' : World} {base g : Nat} {R : Nat → Prop} {err : Int} {l : List UInt8} {e : TypeId} {v v' : Value} {n n' : Nat} {xs xs' : List Value} (h : Both w base g R err l e v n xs)
    (ho : w'.ownsRow base e 1 v' n' xs') (hg : w.grownBy w' v.ownBlock) (hat : v'.ownBlock = v.ownBlock ∨ v'.ownBlock = some w.heap.size) (hb : Below base w w') : Both w' base g R err l e v' n' xs' := by
  obtain ⟨h1, h2, h3, h4⟩ := h
  refine ⟨h1.but (But.of_grown hg hb) (fun b hb' => h3 b hb'), ho, fun k hk hr => ?_, h4⟩
  rcases hat with h | h
  · exact h3 k (by rw [← h]; exact hk) hr
  · rw [h] at hk
    injection hk with hk
    have : k < w.heap.size := by obtain ⟨_, _, _, _, _, _, hz⟩ := h1; exact hz k hr
    omega
end Go.Proofs.Ytllbemdeimgiiaa
