/- A region that draws its order, with one operation (number k) that turns the world from a state 'false' to a state 'true'; each other operation yields one value in either state, and keeps it: all orders come to one end. -/
import Derived.Test.YtlcbfikmljmlpaaDoorHeld
namespace Go.Proofs.YtlcbfikmljmlpaaDoor
set_option linter.unusedVariables false
open Go.RowKit
section
variable {P : Program} {ops : Array Oper} {md : Region.Mode} {S : Bool → World → Prop} {k : Nat}
def HeldAt2 (P : Program) (ops : Array Oper) (S : Bool → World → Prop) (k i : Nat) (o : Oper) (v : Value) (a : Act) : Prop :=
  (Region.wanted o (yielded ops a.tmps) = true ∧ i ≠ k ∧ ∀ b w, S b w → HeldUpon P (S b) v ((execOp a.eval o).run P w)) ∨
  (Region.wanted o (yielded ops a.tmps) = true ∧ i = k ∧ ∀ w, S false w → HeldUpon P (S true) v ((execOp a.eval o).run P w)) ∨
  (Region.wanted o (yielded ops a.tmps) = false ∧ i ≠ k ∧ v = undef)
def hOp2 (P : Program) (ops : Array Oper) (S : Bool → World → Prop) (k i : Nat) (K : Act → Prop) (a : Act) : Prop :=
  match ops[i]? with
  | none => K a
  | some o => ∃ v, HeldAt2 P ops S k i o v a ∧ K (a.put o.dst v)
theorem hOp2_mono {i : Nat} {a : Act} {K K' : Act → Prop} (h : ∀ a, K a → K' a) (hh : hOp2 P ops S k i K a) : hOp2 P ops S k i K' a := by
  unfold hOp2 at *
  split
  · exact h _ (by simpa [*] using hh)
  · rename_i o ho
    simp only [ho] at hh
    obtain ⟨v, h1, h2⟩ := hh
    exact ⟨v, h1, h _ h2⟩
theorem HeldAt2.of_same {i : Nat} {o : Oper} {v : Value} {a a' : Act} (hy : HeldAt2 P ops S k i o v a) (he : execOp a'.eval o = execOp a.eval o)
    (hw : Region.wanted o (yielded ops a'.tmps) = Region.wanted o (yielded ops a.tmps)) : HeldAt2 P ops S k i o v a' := by
  unfold HeldAt2 at *
  rw [he, hw]
  exact hy
theorem hOp2_put {i j : Nat} {oi oj : Oper} {v : Value} (hj : ops[j]? = some oj) (hap : oi.apart ops oj = true)
    (hsi : ∀ cs b, oi.op ≠ .select cs b) (hsj : ∀ cs b, oj.op ≠ .select cs b) {K : Act → Prop} {a : Act}
    (hy : HeldAt2 P ops S k i oi v a) (h : hOp2 P ops S k j K (a.put oi.dst v)) :
    hOp2 P ops S k j (fun a' => HeldAt2 P ops S k i oi v a' ∧ K (a'.put oi.dst v)) a := by
  obtain ⟨h1, h2, h3⟩ := Oper.apart_spec hap
  unfold hOp2 at *
  simp only [hj] at *
  obtain ⟨u, hu, hK⟩ := h
  refine ⟨u, ?_, ?_, ?_⟩
  · exact hu.of_same (execOp_put oj hsj a oi.dst v h1).symm (wanted_put oj a oi.dst v h1).symm
  · exact hy.of_same (execOp_put oi hsi a oj.dst u h3) (wanted_put oi a oj.dst u h3)
  · rw [← Act.put_comm a v u h2]; exact hK
def wpAnyT2 (P : Program) (md : Region.Mode) (ops : Array Oper) (S : Bool → World → Prop) (k : Nat) (Q : Act → Prop) : Nat → Array Bool → Act → Prop
  | 0, listed, a => Region.ready md ops listed = [] ∧ listed.getD k true = true ∧ Q a
  | fuel + 1, listed, a =>
    (Region.ready md ops listed = [] → listed.getD k true = true ∧ Q a) ∧
    ∀ i ∈ Region.ready md ops listed, hOp2 P ops S k i (wpAnyT2 P md ops S k Q fuel (listed.setIfInBounds i true)) a
theorem wpAnyT2_first {Q : Act → Prop} {i : Nat} {oi : Oper} {v : Value} (hi : ops[i]? = some oi) (hsel : ∀ (j : Nat) (o : Oper) cs b, ops[j]? = some o → o.op ≠ .select cs b) :
    ∀ (fuel : Nat) (listed : Array Bool) (a : Act),
      (∀ j oj, ops[j]? = some oj → j ≠ i → listed.getD j true = false → (∀ e ∈ oj.after, Region.binds md e = true → e.on ≠ i) → oi.apart ops oj = true) →
      i ∈ Region.ready md ops listed → HeldAt2 P ops S k i oi v a →
      wpAnyT2 P md ops S k Q fuel (listed.setIfInBounds i true) (a.put oi.dst v) → wpAnyT2 P md ops S k Q (fuel + 1) listed a := by
  intro fuel
  induction fuel with
  | zero =>
    intro listed a _ hr hy H
    refine ⟨fun h => (by rw [h] at hr; cases hr), fun j hj => ?_⟩
    by_cases hji : j = i
    · subst hji; unfold hOp2; simp only [hi]; exact ⟨v, hy, H⟩
    · have := ready_mono hj hji
      rw [H.1] at this
      cases this
  | succ fuel ih =>
    intro listed a hfree hr hy H
    refine ⟨fun h => (by rw [h] at hr; cases hr), fun j hj => ?_⟩
    by_cases hji : j = i
    · subst hji; unfold hOp2; simp only [hi]; exact ⟨v, hy, H⟩
    · have h1 := H.2 j (ready_mono hj hji)
      obtain ⟨hjun, oj, hoj, hall⟩ := mem_ready.1 hj
      have hnot : ∀ e ∈ oj.after, Region.binds md e = true → e.on ≠ i := fun e he hb heq => by
        have h1 := hall e he hb
        have h0 := (mem_ready.1 hr).1
        rw [heq] at h1
        rcases Nat.lt_or_ge i listed.size with h' | h'
        · simp [h'] at h0 h1; rw [h0] at h1; cases h1
        · simp [Array.getElem?_eq_none h'] at h1
      have h2 := hOp2_put hoj (hfree j oj hoj hji hjun hnot) (fun cs b => hsel i oi cs b hi) (fun cs b => hsel j oj cs b hoj) hy h1
      have hfree' : ∀ m ok, ops[m]? = some ok → m ≠ i → (listed.setIfInBounds j true).getD m true = false →
          (∀ e ∈ ok.after, Region.binds md e = true → e.on ≠ i) → oi.apart ops ok = true := fun m ok hk hki hun hno => by
        refine hfree m ok hk hki ?_ hno
        by_cases hjk : j = m
        · subst hjk; exact hjun
        · rw [getD_set_ne true hjk] at hun; exact hun
      refine hOp2_mono (fun a' h3 => ih (listed.setIfInBounds j true) a' hfree' (ready_mono hr (Ne.symm hji)) h3.1 ?_) h2
      rw [Array.setIfInBounds_comm _ _ hji]
      exact h3.2
/-- the operations, one by one, in the order of the text -/
def wpHeld2 (P : Program) (ops : Array Oper) (S : Bool → World → Prop) (k : Nat) (Q : Act → Prop) : Nat → List Oper → Act → Prop
  | _, [], a => Q a
  | i, o :: rest, a => ∃ v, HeldAt2 P ops S k i o v a ∧ wpHeld2 P ops S k Q (i + 1) rest (a.put o.dst v)
theorem getD_set_self (listed : Array Bool) (i : Nat) : (listed.setIfInBounds i true).getD i true = true := by
  rcases Nat.lt_or_ge i listed.size with h | h
  · simp [h]
  · simp
theorem wpAnyT2_lex {Q : Act → Prop} (hs : Region.noSelect ops = true) : ∀ (l : List Oper) (c : Nat) (listed : Array Bool) (a : Act), (∀ j, l[j]? = ops[c + j]?) → listed.size = ops.size → (∀ j, j < c → listed.getD j true = true) →
    Region.lexFrom md ops l.length c listed = true → wpHeld2 P ops S k Q c l a → wpAnyT2 P md ops S k Q l.length listed a
  | [], c, listed, a, hl, hsz, hd, hB, h => ⟨by simpa [Region.lexFrom] using hB, by
      have hc : ops.size ≤ c := by have := hl 0; simpa using this
      rcases Nat.lt_or_ge k c with h1 | h1
      · exact hd k h1
      · have h2 : listed.size ≤ k := by omega
        simp [Array.getElem?_eq_none h2], h⟩
  | o :: l, c, listed, a, hl, hsz, hd, hB, h => by
    have h0 : ops[c]? = some o := by simpa using (hl 0).symm
    simp only [List.length_cons, Region.lexFrom, Bool.and_eq_true] at hB
    obtain ⟨⟨hr, hf⟩, hB'⟩ := hB
    obtain ⟨v, hy, hK⟩ := h
    refine wpAnyT2_first h0 (Region.noSelect_spec hs) l.length listed a (Region.free_spec h0 hf) (by simpa using hr) hy
      (wpAnyT2_lex hs l (c + 1) _ _ (fun j => by have := hl (j + 1); simpa [Nat.add_assoc, Nat.add_comm 1 j] using this) (by simpa using hsz) (fun j hj => ?_) hB' hK)
    by_cases hjc : c = j
    · subst hjc; exact getD_set_self _ _
    · rw [getD_set_ne true hjc]; exact hd j (by omega)
theorem wpOp_of_hOp2 {i : Nat} {a : Act} {w : World} {b : Bool} {K : Act → Prop} {K' : Act → World → Prop} {Q' : Exit → Act → World → Prop} (hi : i = k → b = false) (hw : S b w) (h : ∀ a w, S (if i = k then true else b) w → K a → K' a w) (hh : hOp2 P ops S k i K a) (hin : i < ops.size) : wpOp P ops Q' i K' a w := by
  unfold hOp2 at hh
  unfold wpOp
  split
  · rename_i ho; rw [Array.getElem?_eq_none_iff] at ho; omega
  · rename_i o ho
    simp only [ho] at hh
    obtain ⟨v, hy, hK⟩ := hh
    rcases hy with ⟨hwt, hne, hy⟩ | ⟨hwt, heq, hy⟩ | ⟨hwt, hne, rfl⟩
    · rw [if_neg hne] at h
      rw [if_pos hwt]
      left
      have hr := hy b w hw
      unfold Oper.wp
      generalize (execOp a.eval o).run P w = r at *
      cases r with
      | ok n w' =>
        cases n <;> simp only [HeldUpon] at hr <;> simp only [Oper.upon]
        case value u => obtain ⟨rfl, hs⟩ := hr; exact h _ _ hs hK
        case skip => obtain ⟨rfl, hs⟩ := hr; exact h _ _ hs hK
        case enter f args => exact hr.mono fun e w'' ⟨he, hs⟩ => by subst he; exact h _ _ hs hK
      | halt x w' => simp only [HeldUpon] at hr
    · rw [if_pos heq] at h
      obtain rfl := hi heq
      rw [if_pos hwt]
      left
      have hr := hy w hw
      unfold Oper.wp
      generalize (execOp a.eval o).run P w = r at *
      cases r with
      | ok n w' =>
        cases n <;> simp only [HeldUpon] at hr <;> simp only [Oper.upon]
        case value u => obtain ⟨rfl, hs⟩ := hr; exact h _ _ hs hK
        case skip => obtain ⟨rfl, hs⟩ := hr; exact h _ _ hs hK
        case enter f args => exact hr.mono fun e w'' ⟨he, hs⟩ => by subst he; exact h _ _ hs hK
      | halt x w' => simp only [HeldUpon] at hr
    · rw [if_neg hne] at h
      rw [if_neg (by rw [hwt]; simp)]
      exact h _ _ hw hK
theorem wpAny_of_held2 {Q : Act → Prop} {Q' : Exit → Act → World → Prop} (hQ : ∀ a w, S true w → Q a → Q' .normal a w) : ∀ (fuel : Nat) (listed : Array Bool) (a : Act) (w : World), S (listed.getD k true) w →
    wpAnyT2 P md ops S k Q fuel listed a → wpAny P md ops Q' fuel listed a w
  | 0, _, _, _, hw, h => ⟨h.1, hQ _ _ (by rw [h.2.1] at hw; exact hw) h.2.2⟩
  | fuel + 1, listed, _, _, hw, h => ⟨fun h0 => hQ _ _ (by rw [(h.1 h0).1] at hw; exact hw) (h.1 h0).2, fun i hi => by
      obtain ⟨hun, oi, hoi, _⟩ := mem_ready.1 hi
      refine wpOp_of_hOp2 (b := listed.getD k true) (fun hik => by subst hik; exact hun) hw (fun a' w' hw' => wpAny_of_held2 hQ fuel _ a' w' ?_) (h.2 i hi) (Array.getElem?_eq_some_iff.1 hoi).1
      by_cases hik : i = k
      · subst hik; rw [getD_set_self]; rw [if_pos rfl] at hw'; exact hw'
      · rw [getD_set_ne true hik]; rw [if_neg hik] at hw'; exact hw'⟩
theorem wp_region_held2 {id : Nat} {Q : Exit → Act → World → Prop} {a : Act} {w : World} {l : List Oper} (S : Bool → World → Prop) (k : Nat) (hk : k < l.length) (hm : P.follows .mixedOrders = true) (hB : Region.lexB .any l.toArray = true)
    (hS : S false { w with drawn := w.drawn + 1 }) (h : wpHeld2 P l.toArray S k (fun a' => ∀ w', S true w' → Q .normal a' w') 0 l a) : (Code.region id l.toArray true).wp P Q a w := by
  simp only [Region.lexB, Bool.and_eq_true] at hB
  refine wp_region_any hm (wpAny_of_held2 (S := S) (k := k) (Q := fun a' => ∀ w', S true w' → Q .normal a' w') (fun a' w' hw' h => h w' hw') _ _ _ _ ?_ ?_)
  · have : (Array.replicate l.toArray.size false).getD k true = false := by simp [hk]
    rw [this]; exact hS
  have := wpAnyT2_lex (P := P) (S := S) (k := k) (Q := fun a' => ∀ w', S true w' → Q .normal a' w') (md := .any) hB.1 l 0 (Array.replicate l.toArray.size false) a (by simp) (by simp) (fun j hj => by omega) (by simpa using hB.2) h
  simpa using this
theorem held2_yes {Q : Act → Prop} {i : Nat} {o : Oper} {rest : List Oper} {a : Act} {v : Value} (hw : Region.wanted o (yielded ops a.tmps) = true) (hne : i ≠ k) (h : ∀ b w, S b w → HeldUpon P (S b) v ((execOp a.eval o).run P w)) (c : wpHeld2 P ops S k Q (i + 1) rest (a.put o.dst v)) : wpHeld2 P ops S k Q i (o :: rest) a :=
  ⟨v, .inl ⟨hw, hne, h⟩, c⟩
theorem held2_at {Q : Act → Prop} {i : Nat} {o : Oper} {rest : List Oper} {a : Act} {v : Value} (hw : Region.wanted o (yielded ops a.tmps) = true) (heq : i = k) (h : ∀ w, S false w → HeldUpon P (S true) v ((execOp a.eval o).run P w)) (c : wpHeld2 P ops S k Q (i + 1) rest (a.put o.dst v)) : wpHeld2 P ops S k Q i (o :: rest) a :=
  ⟨v, .inr (.inl ⟨hw, heq, h⟩), c⟩
theorem held2_no {Q : Act → Prop} {i : Nat} {o : Oper} {rest : List Oper} {a : Act} (hw : Region.wanted o (yielded ops a.tmps) = false) (hne : i ≠ k) (c : wpHeld2 P ops S k Q (i + 1) rest (a.put o.dst undef)) : wpHeld2 P ops S k Q i (o :: rest) a :=
  ⟨undef, .inr (.inr ⟨hw, hne, rfl⟩), c⟩
theorem held2_nil {Q : Act → Prop} {i : Nat} {a : Act} (h : Q a) : wpHeld2 P ops S k Q i [] a := h
end
end Go.Proofs.YtlcbfikmljmlpaaDoor
