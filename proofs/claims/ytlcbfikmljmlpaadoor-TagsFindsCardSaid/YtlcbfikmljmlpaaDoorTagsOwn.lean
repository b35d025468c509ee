/- Tags in a row of the call's own: clones, stores, what is deleted. -/
import Derived.Test.YtlcbfikmljmlpaaDoorTagsSame
import Derived.Test.YtlcbfikmljmlpaaDoorApp
import Derived.Lib.SliceRun
namespace Go.Proofs.YtlcbfikmljmlpaaDoor
set_option linter.unusedVariables false
open Go.RowKit
theorem elT : Elem Tryd.prog 22 30 2 32 := Elem.mk' Tryd.underlying22 (z := .agg #[.string ByteArray.empty, .string ByteArray.empty]) (by kernel_rfl) rfl (by omega)
/-- the cells of tags -/
def flat : List TagV → List Value
  | [] => []
  | t :: l => .string t.k :: .string t.v :: flat l
theorem flat_len : ∀ l : List TagV, (flat l).length = l.length * 2
  | [] => rfl
  | t :: l => by simp only [flat, List.length_cons, flat_len l]; omega
theorem flat_app : ∀ l m : List TagV, flat (l ++ m) = flat l ++ flat m
  | [], _ => rfl
  | t :: l, m => by simp only [flat, List.cons_append, flat_app l m]
theorem flat_one : ∀ (l : List TagV), ∀ u ∈ flat l, u.oneCell' = true
  | [], u, h => by simp [flat] at h
  | t :: l, u, h => by
    simp only [flat, List.mem_cons] at h
    rcases h with rfl | rfl | h
    · rfl
    · rfl
    · exact flat_one l u h
theorem flat_at : ∀ (l : List TagV) (i : Nat) (h : i < l.length), (flat l)[i * 2]? = some (.string l[i].k) ∧ (flat l)[i * 2 + 1]? = some (.string l[i].v)
  | [], i, h => by simp at h
  | t :: l, 0, _ => ⟨rfl, rfl⟩
  | t :: l, i + 1, h => by
    rw [show (i + 1) * 2 = (i * 2) + 1 + 1 by omega]
    exact flat_at l i (by simpa using h)
theorem SeesT.of_flat {w : World} {A : Option Addr} {l : List TagV} (h : Sees w A (flat l)) : SeesT w A l := by
  intro i hi
  obtain ⟨e0, e1⟩ := flat_at l i hi
  obtain ⟨a, ha, h0⟩ := h _ _ e0
  obtain ⟨b, hb, h1⟩ := h _ _ e1
  rw [ha] at hb
  injection hb with hb
  subst hb
  exact ⟨a, ha, h0, by rw [addr_add]; exact h1⟩
theorem SeesT.to_flat {w : World} {A : Option Addr} {l : List TagV} (h : SeesT w A l) : Sees w A (flat l) := by
  intro i u hu
  have hl : i < l.length * 2 := by
    have := (List.getElem?_eq_some_iff.1 hu).1
    rwa [flat_len] at this
  obtain ⟨a, ha, h0, h1⟩ := h (i / 2) (by omega)
  obtain ⟨e0, e1⟩ := flat_at l (i / 2) (by omega)
  refine ⟨a, ha, ?_⟩
  rcases Nat.mod_two_eq_zero_or_one i with hm | hm
  · rw [show i / 2 * 2 = i by omega] at e0 h0
    rw [e0] at hu
    injection hu with hu
    rw [← hu]
    exact h0
  · rw [show i / 2 * 2 + 1 = i by omega] at e1
    rw [addr_add, show i / 2 * 2 + 1 = i by omega] at h1
    rw [e1] at hu
    injection hu with hu
    rw [← hu]
    exact h1
theorem eqlT_nil (A : Option Addr) (n c : Nat) (w : World) : (binOp .eql 22 (.slice A n c) (.slice none 0 0)).run Tryd.prog w = .ok (.bool A.isNone) w :=
  Lib.run_eql_slice_nil w _ _ A n c 0 0 Tryd.underlying22
/-- a slice of the call's own, from a block on -/
def NewT (B : Nat) (w' : World) (l : List TagV) (A : Option Addr) (c : Nat) : Prop :=
  w'.ownsRow B 30 2 (.slice A l.length c) l.length (flat l)
theorem NewT.sees {B : Nat} {w' : World} {l : List TagV} {A : Option Addr} {c : Nat} (h : NewT B w' l A c) : SeesT w' A l := SeesT.of_flat (own_sees h)
def CloneT (w : World) (l : List TagV) (e : Ending) (w' : World) : Prop := ∃ A c, e = .returned (.slice A l.length c) ∧ NewT w.heap.size w' l A c ∧ Below w.heap.size w w'
set_option maxHeartbeats 1000000 in
theorem cloneT_some (a : Addr) (c : Nat) (l : List TagV) (w : World) (hl : SeesT w (some a) l) (hlen : l.length ≤ 1000000) :
    Calls Tryd.prog 37 #[.slice (some a) l.length c] w (CloneT w l) := by
  have hnil := eqlT_nil (some a) l.length c
  have hb0 : Below w.heap.size w (w.alloc (.cells #[] 30)) := (Below.refl _ _).alloc (Nat.le_refl _) _
  have ho : (w.alloc (.cells #[] 30)).ownsRow w.heap.size 30 2 (.slice (some ⟨w.heap.size, 0, none⟩) 0 0) 0 [] :=
    ⟨rfl, .inr ⟨w.heap.size, 0, #[], rfl, Nat.le_refl _, heap_alloc_new _ _, Nat.le_refl _, by unfold maxLen; omega, rfl, rfl⟩⟩
  have hl0 := (hl.below hb0).to_flat
  have hfl := hid (flat_len l)
  go_enter Tryd.func37, Tryd.ntmps37
  go_wp2_with (at_builtin; refine wpList_app rfl (.tmp 5) (.tmp 6) _ rfl elT rfl ho (some a) l.length c rfl (flat l) hl0 hfl.out (flat_one l) l.length (by omega) (flat l) rfl (by unfold maxLen; omega) (by omega) hb0.size ?_; intro A' c' w' hown hgr hat hb1)
  go_ret
  exact ⟨A', c', rfl, hown, hb0.trans hb1⟩
set_option maxHeartbeats 1000000 in
theorem cloneT_none (n c : Nat) (w : World) :
    Calls Tryd.prog 37 #[.slice none n c] w (CloneT w []) := by
  have hnil := eqlT_nil none n c
  go_enter Tryd.func37, Tryd.ntmps37
  go_wp2
  go_ret
  exact ⟨none, 0, rfl, own_nil _ _ _ _, Below.refl _ _⟩
theorem cloneT_any (A : Option Addr) (c : Nat) (l : List TagV) (w : World) (hl : SeesT w A l) (hlen : l.length ≤ 1000000) :
    Calls Tryd.prog 37 #[.slice A l.length c] w (CloneT w l) := by
  cases A with
  | some a => exact cloneT_some a c l w hl hlen
  | none =>
    have : l = [] := by
      cases l with
      | nil => rfl
      | cons x l => obtain ⟨a, ha, _⟩ := hl 0 (by simp); cases ha
    subst this
    exact cloneT_none _ _ _
end Go.Proofs.YtlcbfikmljmlpaaDoor
