/- A region that draws its order, with two operations (k, and m that waits for k) that turn the world from state 0 to 1 and to 2; each other operation yields one value in any state, and keeps it: all orders come to one end. -/
import Derived.Test.YtkmhmehofipehaaGreatDoorPz4
import Derived.Deep.RegionHeld3
import Derived.Test.YtkmhmehofipehaaGreatDoorPz3
import Derived.Test.YtkmhmehofipehaaGreatDoorProg
import Derived.Test.YtkmhmehofipehaaGreatDoorPz1
import Derived.WalkSpells
import Derived.WalkLawsBesides
import Derived.Test.YtkmhmehofipehaaGreatDoorPz2
namespace Go.Proofs.YtkmhmehofipehaaGreatDoor
set_option linter.unusedVariables false
open Go.RowKit
section
variable {P : Program} {ops : Array Oper} {md : Region.Mode} {S : Nat → World → Prop} {k m : Nat}
def HeldAt3 (P : Program) (ops : Array Oper) (S : Nat → World → Prop) (k m i : Nat) (o : Oper) (v : Value) (a : Act) : Prop :=
  (Region.wanted o (yielded ops a.tmps) = true ∧ (i ≠ k ∧ i ≠ m) ∧ ∀ b w, S b w → HeldUpon P (S b) v ((execOp a.eval o).run P w)) ∨
  (Region.wanted o (yielded ops a.tmps) = true ∧ i = k ∧ ∀ w, S 0 w → HeldUpon P (S 1) v ((execOp a.eval o).run P w)) ∨
  (Region.wanted o (yielded ops a.tmps) = true ∧ i = m ∧ ∀ w, S 1 w → HeldUpon P (S 2) v ((execOp a.eval o).run P w)) ∨
  (Region.wanted o (yielded ops a.tmps) = false ∧ (i ≠ k ∧ i ≠ m) ∧ v = undef)
def hOp3 (P : Program) (ops : Array Oper) (S : Nat → World → Prop) (k m i : Nat) (K : Act → Prop) (a : Act) : Prop :=
  match ops[i]? with
  | none => K a
  | some o => ∃ v, HeldAt3 P ops S k m i o v a ∧ K (a.put o.dst v)
theorem hOp3_mono {i : Nat} {a : Act} {K K' : Act → Prop} (h : ∀ a, K a → K' a) (hh : hOp3 P ops S k m i K a) : hOp3 P ops S k m i K' a := by
  unfold hOp3 at *
  split
  · exact h _ (by simpa [*] using hh)
  · rename_i o ho
    simp only [ho] at hh
    obtain ⟨v, h1, h2⟩ := hh
    exact ⟨v, h1, h _ h2⟩
theorem HeldAt3.of_same {i : Nat} {o : Oper} {v : Value} {a a' : Act} (hy : HeldAt3 P ops S k m i o v a) (he : execOp a'.eval o = execOp a.eval o)
    (hw : Region.wanted o (yielded ops a'.tmps) = Region.wanted o (yielded ops a.tmps)) : HeldAt3 P ops S k m i o v a' := by
  unfold HeldAt3 at *
  rw [he, hw]
  exact hy
theorem hOp3_put {i j : Nat} {oi oj : Oper} {v : Value} (hj : ops[j]? = some oj) (hap : oi.apart ops oj = true)
    (hsi : ∀ cs b, oi.op ≠ .select cs b) (hsj : ∀ cs b, oj.op ≠ .select cs b) {K : Act → Prop} {a : Act}
    (hy : HeldAt3 P ops S k m i oi v a) (h : hOp3 P ops S k m j K (a.put oi.dst v)) :
    hOp3 P ops S k m j (fun a' => HeldAt3 P ops S k m i oi v a' ∧ K (a'.put oi.dst v)) a := by
  obtain ⟨h1, h2, h3⟩ := Oper.apart_spec hap
  unfold hOp3 at *
  simp only [hj] at *
  obtain ⟨u, hu, hK⟩ := h
  refine ⟨u, ?_, ?_, ?_⟩
  · exact hu.of_same (execOp_put oj hsj a oi.dst v h1).symm (wanted_put oj a oi.dst v h1).symm
  · exact hy.of_same (execOp_put oi hsi a oj.dst u h3) (wanted_put oi a oj.dst u h3)
  · rw [← Act.put_comm a v u h2]; exact hK
def wpAnyT3 (P : Program) (md : Region.Mode) (ops : Array Oper) (S : Nat → World → Prop) (k m : Nat) (Q : Act → Prop) : Nat → Array Bool → Act → Prop
  | 0, listed, a => Region.ready md ops listed = [] ∧ (listed.getD k true = true ∧ listed.getD m true = true) ∧ Q a
  | fuel + 1, listed, a =>
    (Region.ready md ops listed = [] → (listed.getD k true = true ∧ listed.getD m true = true) ∧ Q a) ∧
    ∀ i ∈ Region.ready md ops listed, hOp3 P ops S k m i (wpAnyT3 P md ops S k m Q fuel (listed.setIfInBounds i true)) a
theorem wpAnyT3_first {Q : Act → Prop} {i : Nat} {oi : Oper} {v : Value} (hi : ops[i]? = some oi) (hsel : ∀ (j : Nat) (o : Oper) cs b, ops[j]? = some o → o.op ≠ .select cs b) :
    ∀ (fuel : Nat) (listed : Array Bool) (a : Act),
      (∀ j oj, ops[j]? = some oj → j ≠ i → listed.getD j true = false → (∀ e ∈ oj.after, Region.binds md e = true → e.on ≠ i) → oi.apart ops oj = true) →
      i ∈ Region.ready md ops listed → HeldAt3 P ops S k m i oi v a →
      wpAnyT3 P md ops S k m Q fuel (listed.setIfInBounds i true) (a.put oi.dst v) → wpAnyT3 P md ops S k m Q (fuel + 1) listed a := by
  intro fuel
  induction fuel with
  | zero =>
    intro listed a _ hr hy H
    refine ⟨fun h => (by rw [h] at hr; cases hr), fun j hj => ?_⟩
    by_cases hji : j = i
    · subst hji; unfold hOp3; simp only [hi]; exact ⟨v, hy, H⟩
    · have := ready_mono hj hji
      rw [H.1] at this
      cases this
  | succ fuel ih =>
    intro listed a hfree hr hy H
    refine ⟨fun h => (by rw [h] at hr; cases hr), fun j hj => ?_⟩
    by_cases hji : j = i
    · subst hji; unfold hOp3; simp only [hi]; exact ⟨v, hy, H⟩
    · have h1 := H.2 j (ready_mono hj hji)
      obtain ⟨hjun, oj, hoj, hall⟩ := mem_ready.1 hj
      have hnot : ∀ e ∈ oj.after, Region.binds md e = true → e.on ≠ i := fun e he hb heq => by
        have h1 := hall e he hb
        have h0 := (mem_ready.1 hr).1
        rw [heq] at h1
        rcases Nat.lt_or_ge i listed.size with h' | h'
        · simp [h'] at h0 h1; rw [h0] at h1; cases h1
        · simp [Array.getElem?_eq_none h'] at h1
      have h2 := hOp3_put hoj (hfree j oj hoj hji hjun hnot) (fun cs b => hsel i oi cs b hi) (fun cs b => hsel j oj cs b hoj) hy h1
      have hfree' : ∀ n ok, ops[n]? = some ok → n ≠ i → (listed.setIfInBounds j true).getD n true = false →
          (∀ e ∈ ok.after, Region.binds md e = true → e.on ≠ i) → oi.apart ops ok = true := fun n ok hk hki hun hno => by
        refine hfree n ok hk hki ?_ hno
        by_cases hjk : j = n
        · subst hjk; exact hjun
        · rw [getD_set_ne true hjk] at hun; exact hun
      refine hOp3_mono (fun a' h3 => ih (listed.setIfInBounds j true) a' hfree' (ready_mono hr (Ne.symm hji)) h3.1 ?_) h2
      rw [Array.setIfInBounds_comm _ _ hji]
      exact h3.2
/-- the operations, one by one, in the order of the text -/
def wpHeld3 (P : Program) (ops : Array Oper) (S : Nat → World → Prop) (k m : Nat) (Q : Act → Prop) : Nat → List Oper → Act → Prop
  | _, [], a => Q a
  | i, o :: rest, a => ∃ v, HeldAt3 P ops S k m i o v a ∧ wpHeld3 P ops S k m Q (i + 1) rest (a.put o.dst v)
theorem wpAnyT3_lex {Q : Act → Prop} (hs : Region.noSelect ops = true) : ∀ (l : List Oper) (c : Nat) (listed : Array Bool) (a : Act), (∀ j, l[j]? = ops[c + j]?) → listed.size = ops.size → (∀ j, j < c → listed.getD j true = true) →
    Region.lexFrom md ops l.length c listed = true → wpHeld3 P ops S k m Q c l a → wpAnyT3 P md ops S k m Q l.length listed a
  | [], c, listed, a, hl, hsz, hd, hB, h => ⟨by simpa [Region.lexFrom] using hB, by
      have hc : ops.size ≤ c := by have := hl 0; simpa using this
      have key : ∀ x, listed.getD x true = true := fun x => by
        rcases Nat.lt_or_ge x c with h1 | h1
        · exact hd x h1
        · have h2 : listed.size ≤ x := by omega
          simp [Array.getElem?_eq_none h2]
      exact ⟨key k, key m⟩, h⟩
  | o :: l, c, listed, a, hl, hsz, hd, hB, h => by
    have h0 : ops[c]? = some o := by simpa using (hl 0).symm
    simp only [List.length_cons, Region.lexFrom, Bool.and_eq_true] at hB
    obtain ⟨⟨hr, hf⟩, hB'⟩ := hB
    obtain ⟨v, hy, hK⟩ := h
    refine wpAnyT3_first h0 (Region.noSelect_spec hs) l.length listed a (Region.free_spec h0 hf) (by simpa using hr) hy
      (wpAnyT3_lex hs l (c + 1) _ _ (fun j => by have := hl (j + 1); simpa [Nat.add_assoc, Nat.add_comm 1 j] using this) (by simpa using hsz) (fun j hj => ?_) hB' hK)
    by_cases hjc : c = j
    · subst hjc; exact getD_set_self _ _
    · rw [getD_set_ne true hjc]; exact hd j (by omega)
def stOf (k m : Nat) (listed : Array Bool) : Nat := if listed.getD m true = true then 2 else if listed.getD k true = true then 1 else 0
theorem wpOp_of_hOp3 {i : Nat} {a : Act} {w : World} {b b' : Nat} {K : Act → Prop} {K' : Act → World → Prop} {Q' : Exit → Act → World → Prop} (hi : (i ≠ k ∧ i ≠ m → b' = b) ∧ (i = k → b = 0 ∧ b' = 1) ∧ (i = m → b = 1 ∧ b' = 2)) (hw : S b w) (h : ∀ a w, S b' w → K a → K' a w) (hh : hOp3 P ops S k m i K a) (hin : i < ops.size) : wpOp P ops Q' i K' a w := by
  unfold hOp3 at hh
  unfold wpOp
  split
  · rename_i ho; rw [Array.getElem?_eq_none_iff] at ho; omega
  · rename_i o ho
    simp only [ho] at hh
    obtain ⟨v, hy, hK⟩ := hh
    have fin : ∀ r : Result Next, HeldUpon P (S b') v r → Oper.upon P o a K' Q' r := fun r hr => by
      cases r with
      | ok n w' =>
        cases n <;> simp only [HeldUpon] at hr <;> simp only [Oper.upon]
        case value u => obtain ⟨rfl, hs⟩ := hr; exact h _ _ hs hK
        case skip => obtain ⟨rfl, hs⟩ := hr; exact h _ _ hs hK
        case enter f args => exact hr.mono fun e w'' ⟨he, hs⟩ => by subst he; exact h _ _ hs hK
      | halt x w' => simp only [HeldUpon] at hr
    rcases hy with ⟨hwt, hne, hy⟩ | ⟨hwt, heq, hy⟩ | ⟨hwt, heq, hy⟩ | ⟨hwt, hne, rfl⟩
    · rw [if_pos hwt]
      obtain rfl := hi.1 hne
      exact .inl (fin _ (hy _ w hw))
    · rw [if_pos hwt]
      obtain ⟨rfl, rfl⟩ := hi.2.1 heq
      exact .inl (fin _ (hy w hw))
    · rw [if_pos hwt]
      obtain ⟨rfl, rfl⟩ := hi.2.2 heq
      exact .inl (fin _ (hy w hw))
    · rw [if_neg (by rw [hwt]; simp)]
      obtain rfl := hi.1 hne
      exact h _ _ hw hK
theorem wpAny_of_held3 {Q : Act → Prop} {Q' : Exit → Act → World → Prop} (hkm : k ≠ m) (hms : m < ops.size) (hed : ∀ o, ops[m]? = some o → o.after.any (fun e => Region.binds md e && e.on == k) = true) (hQ : ∀ a w, S 2 w → Q a → Q' .normal a w) : ∀ (fuel : Nat) (listed : Array Bool) (a : Act) (w : World), listed.size = ops.size → (listed.getD k true = false → listed.getD m true = false) → S (stOf k m listed) w →
    wpAnyT3 P md ops S k m Q fuel listed a → wpAny P md ops Q' fuel listed a w
  | 0, _, _, _, _, _, hw, h => ⟨h.1, hQ _ _ (by unfold stOf at hw; rw [if_pos h.2.1.2] at hw; exact hw) h.2.2⟩
  | fuel + 1, listed, _, _, hsz, hord, hw, h => ⟨fun h0 => hQ _ _ (by unfold stOf at hw; rw [if_pos (h.1 h0).1.2] at hw; exact hw) (h.1 h0).2, fun i hi => by
      obtain ⟨hun, oi, hoi, hall⟩ := mem_ready.1 hi
      have hkfirst : i = m → listed.getD k true = true := fun him => by
        subst him
        obtain ⟨e, he, hb⟩ := Array.any_eq_true'.1 (hed oi hoi)
        simp only [Bool.and_eq_true, beq_iff_eq] at hb
        have h1 := hall e he hb.1
        rw [hb.2] at h1
        rcases Nat.lt_or_ge k listed.size with h' | h'
        · simpa [h'] using h1
        · simp [Array.getElem?_eq_none h']
      refine wpOp_of_hOp3 (b := stOf k m listed) (b' := stOf k m (listed.setIfInBounds i true)) ⟨fun hne => ?_, fun heq => ?_, fun heq => ?_⟩ hw (fun a' w' hw' => wpAny_of_held3 hkm hms hed hQ fuel _ a' w' (by simpa using hsz) ?_ hw') (h.2 i hi) (Array.getElem?_eq_some_iff.1 hoi).1
      · unfold stOf; rw [getD_set_ne true hne.1, getD_set_ne true hne.2]
      · subst heq
        unfold stOf
        rw [getD_set_self, getD_set_ne true hkm, hord hun, hun]; simp
      · subst heq
        unfold stOf
        rw [getD_set_self, hun, hkfirst rfl]; simp
      · intro hk
        by_cases hik : i = k
        · subst hik; rw [getD_set_self] at hk; cases hk
        · rw [getD_set_ne true hik] at hk
          by_cases him : i = m
          · rw [hkfirst him] at hk; cases hk
          · rw [getD_set_ne true him]; exact hord hk⟩
theorem wp_region_held3 {id : Nat} {Q : Exit → Act → World → Prop} {a : Act} {w : World} {l : List Oper} (S : Nat → World → Prop) (k m : Nat) (hk : k < l.length) (hml : m < l.length) (hkm : k ≠ m) (hm : P.follows .mixedOrders = true) (hB : Region.lexB .any l.toArray = true)
    (hed : (l[m]?.map fun o => o.after.any (fun e => Region.binds .any e && e.on == k)) = some true)
    (hS : S 0 { w with drawn := w.drawn + 1 }) (h : wpHeld3 P l.toArray S k m (fun a' => ∀ w', S 2 w' → Q .normal a' w') 0 l a) : (Code.region id l.toArray true).wp P Q a w := by
  simp only [Region.lexB, Bool.and_eq_true] at hB
  have hfk : (Array.replicate l.toArray.size false).getD k true = false := by simp [hk]
  have hfm : (Array.replicate l.toArray.size false).getD m true = false := by simp [hml]
  refine wp_region_any hm (wpAny_of_held3 (S := S) (k := k) (m := m) (Q := fun a' => ∀ w', S 2 w' → Q .normal a' w') hkm (by simpa using hml) (fun o ho => ?_) (fun a' w' hw' h => h w' hw') _ _ _ _ (by simp) (fun _ => hfm) ?_ ?_)
  · have ho' : l[m]? = some o := by simpa using ho
    rw [ho'] at hed
    simpa using hed
  · unfold stOf
    rw [hfm, hfk]
    simpa using hS
  have := wpAnyT3_lex (P := P) (S := S) (k := k) (m := m) (Q := fun a' => ∀ w', S 2 w' → Q .normal a' w') (md := .any) hB.1 l 0 (Array.replicate l.toArray.size false) a (by simp) (by simp) (fun j hj => by omega) (by simpa using hB.2) h
  simpa using this
theorem held3_yes {Q : Act → Prop} {i : Nat} {o : Oper} {rest : List Oper} {a : Act} {v : Value} (hw : Region.wanted o (yielded ops a.tmps) = true) (hne : i ≠ k ∧ i ≠ m) (h : ∀ b w, S b w → HeldUpon P (S b) v ((execOp a.eval o).run P w)) (c : wpHeld3 P ops S k m Q (i + 1) rest (a.put o.dst v)) : wpHeld3 P ops S k m Q i (o :: rest) a :=
  ⟨v, .inl ⟨hw, hne, h⟩, c⟩
theorem held3_at {Q : Act → Prop} {i : Nat} {o : Oper} {rest : List Oper} {a : Act} {v : Value} (hw : Region.wanted o (yielded ops a.tmps) = true) (heq : i = k) (h : ∀ w, S 0 w → HeldUpon P (S 1) v ((execOp a.eval o).run P w)) (c : wpHeld3 P ops S k m Q (i + 1) rest (a.put o.dst v)) : wpHeld3 P ops S k m Q i (o :: rest) a :=
  ⟨v, .inr (.inl ⟨hw, heq, h⟩), c⟩
theorem held3_at2 {Q : Act → Prop} {i : Nat} {o : Oper} {rest : List Oper} {a : Act} {v : Value} (hw : Region.wanted o (yielded ops a.tmps) = true) (heq : i = m) (h : ∀ w, S 1 w → HeldUpon P (S 2) v ((execOp a.eval o).run P w)) (c : wpHeld3 P ops S k m Q (i + 1) rest (a.put o.dst v)) : wpHeld3 P ops S k m Q i (o :: rest) a :=
  ⟨v, .inr (.inr (.inl ⟨hw, heq, h⟩)), c⟩
theorem held3_nil {Q : Act → Prop} {i : Nat} {a : Act} (h : Q a) : wpHeld3 P ops S k m Q i [] a := h
end
end Go.Proofs.YtkmhmehofipehaaGreatDoor
/- A head read: the program's Get. -/
namespace Go.Proofs.YtkmhmehofipehaaGreatDoor
set_option linter.unusedVariables false
open Go.RowKit
/-- a head's values -/
structure HeadV where
  k : Int
  idx : Int
  len : Int
  stp : Int
  bnd : Int
  lst : Bool
  lnk : Int
  siz : Int
def HeadV.cells (h : HeadV) : Array Value := #[.int .i64 h.k, .int .i64 h.idx, .int .i64 h.len, .int .i64 h.stp, .int .i64 h.bnd, .bool h.lst, .int .u32 h.lnk, .int .i64 h.siz]
def HeadV.zero : HeadV := ⟨0, 0, 0, 0, 0, false, 0, 0⟩
/-- the head that bytes of enough length say -/
def saidH (l : List UInt8) : HeadV := ⟨(fldH l 2 1 : Nat), (fldH l 4 4 : Nat), (fldH l 8 4 : Nat), (fldH l 12 4 : Nat), (fldH l 16 4 : Nat), fldH l 3 1 == 1, (fldH l 20 4 : Nat), (fldH l 24 4 : Nat)⟩
def getH (l : List UInt8) : Int × HeadV :=
  if startsH l = false then (30, HeadV.zero) else if l.length < 32 then (10, HeadV.zero) else if sumI (l.take 28) ≠ (fldH l 28 4 : Int) then (33, HeadV.zero)
  else if okH l = false then (32, HeadV.zero) else (0, saidH l)
def GetHPost (w : World) (r : Int × HeadV) (e : Ending) (w' : World) : Prop :=
  e = .returned (.tuple #[.agg r.2.cells, .int .i64 r.1]) ∧ Below w.heap.size w w'
set_option maxHeartbeats 2000000 in
theorem hget_sync (t : Nat) (A : Option Addr) (c : Nat) (l : List UInt8) (w : World) (hl : SeesB w A l) (hs : startsH l = false) :
    Calls Tryz.prog 63 #[.pointer (some ⟨t, 0, none⟩), .slice A l.length c] w (GetHPost w (30, HeadV.zero)) := by
  have hb : Below w.heap.size w (w.alloc (.cells #[.int .i64 0, .int .i64 0, .int .i64 0, .int .i64 0, .int .i64 0, .bool false, .int .u32 0, .int .i64 0] 67)) := (Below.refl _ w).alloc (Nat.le_refl _) _
  have hrow := heap_alloc_new w (.cells #[.int .i64 0, .int .i64 0, .int .i64 0, .int .i64 0, .int .i64 0, .bool false, .int .u32 0, .int .i64 0] 67)
  go_enter Tryz.func63, Tryz.ntmps63
  go_wp2_with fail
  generalize w.alloc (.cells #[.int .i64 0, .int .i64 0, .int .i64 0, .int .i64 0, .int .i64 0, .bool false, .int .u32 0, .int .i64 0] 67) = w0 at *
  have hlt0 : w.heap.size < w0.heap.size := (Array.getElem?_eq_some_iff.1 hrow).1
  refine (hstarts_any A c l w0 (hl.below hb)).mono ?_
  rintro e w1 ⟨rfl, rfl⟩
  rw [hs]
  go_wp2_with first | (refine wpList_store_row rfl 67 (.tmp 4) (.tmp 16) rfl rfl w.heap.size rfl #[.int .i64 0, .int .i64 0, .int .i64 0, .int .i64 0, .int .i64 0, .bool false, .int .u32 0, .int .i64 0] rfl 67 #[.int .i64 0, .int .i64 0, .int .i64 0, .int .i64 0, .int .i64 0, .bool false, .int .u32 0, .int .i64 0] hrow (by kernel_rfl) rfl (by simp [Value.oneCell']) ?_)
  exact bodyPost_ret (v := .tuple #[.agg #[.int .i64 0, .int .i64 0, .int .i64 0, .int .i64 0, .int .i64 0, .bool false, .int .u32 0, .int .i64 0], .int .i64 30]) (results_row_tmp (fn := Tryz.f63) (p := 4) (u := 5) (ty := 67) rfl _ _ w.heap.size _ _ _ _ rfl (setRow_heap _ _ _ _ _ _ hrow) Tryz.underlying67 rfl (by kernel_rfl)) rfl ⟨rfl, below_setRow hb (Nat.le_refl _) _⟩
set_option maxHeartbeats 2000000 in
theorem hget_end (t : Nat) (A : Option Addr) (c : Nat) (l : List UInt8) (w : World) (hl : SeesB w A l) (hs : startsH l = true) (hn : l.length < 32) :
    Calls Tryz.prog 63 #[.pointer (some ⟨t, 0, none⟩), .slice A l.length c] w (GetHPost w (10, HeadV.zero)) := by
  have d1 : decide ((l.length : Int) < 32) = true := by simp; omega
  have hb : Below w.heap.size w (w.alloc (.cells #[.int .i64 0, .int .i64 0, .int .i64 0, .int .i64 0, .int .i64 0, .bool false, .int .u32 0, .int .i64 0] 67)) := (Below.refl _ w).alloc (Nat.le_refl _) _
  have hrow := heap_alloc_new w (.cells #[.int .i64 0, .int .i64 0, .int .i64 0, .int .i64 0, .int .i64 0, .bool false, .int .u32 0, .int .i64 0] 67)
  go_enter Tryz.func63, Tryz.ntmps63
  go_wp2_with fail
  generalize w.alloc (.cells #[.int .i64 0, .int .i64 0, .int .i64 0, .int .i64 0, .int .i64 0, .bool false, .int .u32 0, .int .i64 0] 67) = w0 at *
  have hlt0 : w.heap.size < w0.heap.size := (Array.getElem?_eq_some_iff.1 hrow).1
  refine (hstarts_any A c l w0 (hl.below hb)).mono ?_
  rintro e w1 ⟨rfl, rfl⟩
  rw [hs]
  go_wp2_with first | (refine wpList_store_row rfl 67 (.tmp 4) (.tmp 21) rfl rfl w.heap.size rfl #[.int .i64 0, .int .i64 0, .int .i64 0, .int .i64 0, .int .i64 0, .bool false, .int .u32 0, .int .i64 0] rfl 67 #[.int .i64 0, .int .i64 0, .int .i64 0, .int .i64 0, .int .i64 0, .bool false, .int .u32 0, .int .i64 0] hrow (by kernel_rfl) rfl (by simp [Value.oneCell']) ?_)
  exact bodyPost_ret (v := .tuple #[.agg #[.int .i64 0, .int .i64 0, .int .i64 0, .int .i64 0, .int .i64 0, .bool false, .int .u32 0, .int .i64 0], .int .i64 10]) (results_row_tmp (fn := Tryz.f63) (p := 4) (u := 5) (ty := 67) rfl _ _ w.heap.size _ _ _ _ rfl (setRow_heap _ _ _ _ _ _ hrow) Tryz.underlying67 rfl (by kernel_rfl)) rfl ⟨rfl, below_setRow hb (Nat.le_refl _) _⟩
set_option maxHeartbeats 4000000 in
theorem hget_long (t : Nat) (A : Option Addr) (c : Nat) (l : List UInt8) (w : World) (ht : Tab w t) (hl : SeesB w A l) (hc : l.length ≤ c) (hcm : c ≤ maxLen) (hlen : l.length ≤ 140737488355328) (hs : startsH l = true) (hn : 32 ≤ l.length) :
    Calls Tryz.prog 63 #[.pointer (some ⟨t, 0, none⟩), .slice A l.length c] w (GetHPost w (getH l)) := by
  have d1 : decide ((l.length : Int) < 32) = false := by simp; omega
  obtain ⟨R, hR⟩ : ∃ R, R = getH l := ⟨_, rfl⟩
  rw [← hR]
  have HR := hid hR
  clear hR
  obtain ⟨a, rfl, _⟩ := hl.at (show 0 < l.length by omega)
  have g1 : (28 : Int) ≤ c := by omega
  have g2 : ¬ c = 28 := by omega
  have g3 : (28 : Int) ≤ l.length := by omega
  have g4 : (l.length : Int) ≤ c := by omega
  have h28 : (l.take 28).length = 28 := by rw [List.length_take]; omega
  have hsr := sumI_range (l.take 28)
  obtain ⟨S, hS⟩ := Int.eq_ofNat_of_zero_le hsr.1
  have hsum := fun W (ht : Tab W t) (hl : SeesB W (some a) (l.take 28)) => sum_any t (some a) c (l.take 28) W ht hl (by omega)
  rw [h28, hS] at hsum
  rw [hS] at hsr
  have hS4 : S < 4294967296 := by omega
  have HSUM := hid hsum
  have HS := hid hS
  have hdl : (l.drop 28).length = l.length - 28 := by simp
  have htk := fun W (h : SeesB W (some (a.add 28)) (l.drop 28)) => take_any (some (a.add 28)) (c - 28) (l.drop 28) W h (by omega)
  rw [hdl] at htk
  have HTK := hid htk
  have hu := fun g W (hT : Tk W g 0 0 (l.drop 28)) => takerU_any g 0 0 4 (l.drop 28) W hT (by omega)
  rw [show takeU (0, 0) (l.drop 28) 4 = ((0, 4), ((l.drop 28).drop 0).take 4) from takeU_at 0 4 (l.drop 28) (by omega) (by omega)] at hu
  unfold UPost at hu
  rw [show valLE (((l.drop 28).drop 0).take 4) = fldH l 28 4 from rfl] at hu
  have v5 := fldH_lt l 28 4
  obtain ⟨su, hsu⟩ : ∃ y, y = fldH l 28 4 := ⟨_, rfl⟩
  rw [← hsu] at v5 hu
  have HSU := hid hsu
  have HU := hid hu
  clear hu hsu hsum hS hsr h28 hdl htk
  have hb : Below w.heap.size w (w.alloc (.cells #[.int .i64 0, .int .i64 0, .int .i64 0, .int .i64 0, .int .i64 0, .bool false, .int .u32 0, .int .i64 0] 67)) := (Below.refl _ w).alloc (Nat.le_refl _) _
  have hrow := heap_alloc_new w (.cells #[.int .i64 0, .int .i64 0, .int .i64 0, .int .i64 0, .int .i64 0, .bool false, .int .u32 0, .int .i64 0] 67)
  go_enter Tryz.func63, Tryz.ntmps63
  go_wp2_with fail
  generalize w.alloc (.cells #[.int .i64 0, .int .i64 0, .int .i64 0, .int .i64 0, .int .i64 0, .bool false, .int .u32 0, .int .i64 0] 67) = w0 at *
  have hlt0 : w.heap.size < w0.heap.size := (Array.getElem?_eq_some_iff.1 hrow).1
  refine (hstarts_any (some a) c l w0 (hl.below hb)).mono ?_
  rintro e w1 ⟨rfl, rfl⟩
  rw [hs]
  have hlw := hl.below hb
  have htw := ht.keep hb ht.lt
  have hl28 : SeesB w0 (some a) (l.take 28) := by unfold SeesB; rw [List.map_take]; exact Sees.take hlw 28
  have hdr : SeesB w0 (some (a.add 28)) (l.drop 28) := by have := hlw.cutTo 28 (l.length - 28); rwa [List.take_of_length_le (by simp)] at this
  go_wp2_with fail
  have htd : Tab w0.drew t := htw
  have hld : SeesB w0.drew (some a) (l.take 28) := hl28
  have hdd : SeesB w0.drew (some (a.add 28)) (l.drop 28) := hdr
  go_region_held3 (fun w' => True) (trivial) (first | (go_at_call 52; refine (HSUM.out _ ?_ ?_).mono ?_; exact htd; exact hld; rintro e wa ⟨rfl, rfl⟩) | (go_at_call 54; refine (HTK.out _ ?_).mono ?_; exact hdd; rintro e w2 ⟨g, rfl, hg, hT, hb2⟩) | (go_at_call 55; refine (HU.out g _ ?_).mono ?_; exact hT; rintro e w3 ⟨rfl, hT3, hB3⟩))
  have hb2' := undrew hb2
  have hbw2 := hb.trans (hb2'.mono hb.size)
  have hrow2 := (hb2'.block w.heap.size hlt0).trans hrow
  have hgw : w.heap.size < g := Nat.lt_of_lt_of_le hlt0 hg
  have hlt2 := Nat.lt_of_lt_of_le hlt0 hb2'.size
  have hbw3 := But.below hbw2 hB3 (fun b h => by have h2 : b = g := h; omega) hbw2.size
  have hrow3 := (hB3.block w.heap.size hlt2 (fun h => by have h2 : w.heap.size = g := h; omega)).trans hrow2
  have hlt3 := Nat.lt_of_lt_of_le hlt2 hB3.size
  have hl3 := hl.below hbw3
  have HST := hid hs
  clear htd hld hdd hb2 hb2' hbw2 hrow2 hlt2 hT hT3 hB3 hg hgw hdr hl28 htw hlw hrow hb hlt0 HSUM HTK HU hs ht hl
  by_cases heq : S = su
  · have dd : ((S : Int) != (su : Int)) = false := by rw [heq]; simp
    have dd2 : (IntKind.u64.wrap (S : Int) != (su : Int)) = false := by
      rw [show IntKind.u64.wrap (S : Int) = (S : Int) by rw [IntKind.wrap_u64]; omega]; exact dd
    have HEQ := hid heq
    have HTAKE := hid (htake_any (some a) c l w3 hl3 hn hlen)
    clear heq
    go_wp2_with fail
    refine HTAKE.out.mono ?_
    rintro e w4 ⟨rfl, hb4⟩
    have hbw4 := hbw3.trans (hb4.mono hbw3.size)
    have hrow4 := (hb4.block w.heap.size hlt3).trans hrow3
    have hlt4 := Nat.lt_of_lt_of_le hlt3 hb4.size
    have hb5 : Below w4.heap.size w4 (w4.alloc (.cells (saidH l).cells 67)) := (Below.refl _ _).alloc (Nat.le_refl _) _
    have hr5 := heap_alloc_new w4 (.cells (saidH l).cells 67)
    have hbw5 := hbw4.trans (hb5.mono hbw4.size)
    have hrow5 := (hb5.block w.heap.size hlt4).trans hrow4
    have hmid : Hid (∀ b, okH l = b → R = if b = false then (32, HeadV.zero) else (0, saidH l)) := hid (fun b hb => by
      rw [HR.out]
      unfold getH
      rw [if_neg (by rw [HST.out]; simp), if_neg (by omega), if_neg (by rw [HS.out, HEQ.out, HSU.out]; simp), hb])
    unfold saidH at hmid
    unfold saidH HeadV.cells at hb5 hr5 hbw5 hrow5
    simp only at hb5 hr5 hbw5 hrow5
    generalize fldH l 2 1 = f0 at *
    generalize fldH l 4 4 = f1 at *
    generalize fldH l 8 4 = f2 at *
    generalize fldH l 12 4 = f3 at *
    generalize fldH l 16 4 = f4 at *
    generalize (fldH l 3 1 == 1) = f5 at *
    generalize fldH l 20 4 = f6 at *
    generalize fldH l 24 4 = f7 at *
    clear hb4 hb5 hbw3 hbw4 hrow3 hrow4 hl3 HTAKE
    cases hok : okH l with
    | false =>
      obtain rfl : R = (32, HeadV.zero) := by rw [hmid.out false hok, if_pos rfl]
      clear hok hmid HR
      go_wp2_with first | (refine wpList_store_row rfl 67 (.tmp 4) (.tmp 41) rfl rfl w.heap.size rfl #[.int .i64 0, .int .i64 0, .int .i64 0, .int .i64 0, .int .i64 0, .bool false, .int .u32 0, .int .i64 0] rfl 67 #[.int .i64 0, .int .i64 0, .int .i64 0, .int .i64 0, .int .i64 0, .bool false, .int .u32 0, .int .i64 0] hrow5 (by kernel_rfl) rfl (by simp [Value.oneCell']) ?_)
      exact bodyPost_ret (v := .tuple #[.agg #[.int .i64 0, .int .i64 0, .int .i64 0, .int .i64 0, .int .i64 0, .bool false, .int .u32 0, .int .i64 0], .int .i64 32]) (results_row_tmp (fn := Tryz.f63) (p := 4) (u := 5) (ty := 67) rfl _ _ w.heap.size _ _ _ _ rfl (setRow_heap _ _ _ _ _ _ hrow5) Tryz.underlying67 rfl (by kernel_rfl)) rfl ⟨rfl, below_setRow hbw5 (Nat.le_refl _) _⟩
    | true =>
      obtain rfl := by have := hmid.out true hok; rwa [if_neg (by simp)] at this
      clear hok hmid HR
      go_wp2_with first | (refine wpList_load_row rfl 67 _ rfl w4.heap.size rfl 67 #[.int .i64 (f0 : Nat), .int .i64 (f1 : Nat), .int .i64 (f2 : Nat), .int .i64 (f3 : Nat), .int .i64 (f4 : Nat), .bool f5, .int .u32 (f6 : Nat), .int .i64 (f7 : Nat)] (0, 0) _ hr5 Tryz.underlying67 rfl (by kernel_rfl) ?_) | (refine wpList_store_row rfl 67 (.tmp 4) (.tmp 42) rfl rfl w.heap.size rfl #[.int .i64 (f0 : Nat), .int .i64 (f1 : Nat), .int .i64 (f2 : Nat), .int .i64 (f3 : Nat), .int .i64 (f4 : Nat), .bool f5, .int .u32 (f6 : Nat), .int .i64 (f7 : Nat)] rfl 67 #[.int .i64 0, .int .i64 0, .int .i64 0, .int .i64 0, .int .i64 0, .bool false, .int .u32 0, .int .i64 0] hrow5 (by kernel_rfl) rfl (by simp [Value.oneCell']) ?_)
      exact bodyPost_ret (v := .tuple #[.agg #[.int .i64 (f0 : Nat), .int .i64 (f1 : Nat), .int .i64 (f2 : Nat), .int .i64 (f3 : Nat), .int .i64 (f4 : Nat), .bool f5, .int .u32 (f6 : Nat), .int .i64 (f7 : Nat)], .int .i64 0]) (results_row_tmp (fn := Tryz.f63) (p := 4) (u := 5) (ty := 67) rfl _ _ w.heap.size _ _ _ _ rfl (setRow_heap _ _ _ _ _ _ hrow5) Tryz.underlying67 rfl (by kernel_rfl)) rfl ⟨rfl, below_setRow hbw5 (Nat.le_refl _) _⟩
  · have dd : ((S : Int) != (su : Int)) = true := by simp; omega
    have dd2 : (IntKind.u64.wrap (S : Int) != (su : Int)) = true := by
      rw [show IntKind.u64.wrap (S : Int) = (S : Int) by rw [IntKind.wrap_u64]; omega]; exact dd
    obtain rfl : R = (33, HeadV.zero) := by
      rw [HR.out]; unfold getH
      rw [if_neg (by rw [HST.out]; simp), if_neg (by omega), if_pos (by rw [HS.out, ← HSU.out]; omega)]
    clear HR heq
    go_wp2_with first | (refine wpList_store_row rfl 67 (.tmp 4) (.tmp 33) rfl rfl w.heap.size rfl #[.int .i64 0, .int .i64 0, .int .i64 0, .int .i64 0, .int .i64 0, .bool false, .int .u32 0, .int .i64 0] rfl 67 #[.int .i64 0, .int .i64 0, .int .i64 0, .int .i64 0, .int .i64 0, .bool false, .int .u32 0, .int .i64 0] hrow3 (by kernel_rfl) rfl (by simp [Value.oneCell']) ?_)
    exact bodyPost_ret (v := .tuple #[.agg #[.int .i64 0, .int .i64 0, .int .i64 0, .int .i64 0, .int .i64 0, .bool false, .int .u32 0, .int .i64 0], .int .i64 33]) (results_row_tmp (fn := Tryz.f63) (p := 4) (u := 5) (ty := 67) rfl _ _ w.heap.size _ _ _ _ rfl (setRow_heap _ _ _ _ _ _ hrow3) Tryz.underlying67 rfl (by kernel_rfl)) rfl ⟨rfl, below_setRow hbw3 (Nat.le_refl _) _⟩
end Go.Proofs.YtkmhmehofipehaaGreatDoor
/- Why a block may not be next: the program's and the reference's. -/
namespace Go.Proofs.YtkmhmehofipehaaGreatDoor
set_option linter.unusedVariables false
open Go.RowKit
/-- an info's numbers -/
structure InfoV where
  k : Int
  ch : Int
  bi : Int
  ra : Int
  bl : Int
  sh : Int
def InfoV.v (i : InfoV) : Value := .agg #[.int .i64 i.k, .int .i64 i.ch, .int .i64 i.bi, .int .i64 i.ra, .int .i64 i.bl, .int .i64 i.sh]
def HeadV.v (h : HeadV) : Value := .agg #[.int .i64 h.k, .int .i64 h.idx, .int .i64 h.len, .int .i64 h.stp, .int .i64 h.bnd, .bool h.lst, .int .u32 h.lnk, .int .i64 h.siz]
def nextE (i : InfoV) (h : HeadV) (index : Int) (short : Bool) : Int :=
  if h.k ≠ i.k then 31 else if h.idx ≠ index then 35 else if short = true ∨ i.bl < h.len then 22 else if stepR h.stp i.bi = false then 32 else 0
set_option maxRecDepth 20000 in
set_option maxHeartbeats 4000000 in
theorem fnext_any (i : InfoV) (h : HeadV) (index : Int) (short : Bool) (w : World) (hbi : 8 ≤ i.bi ∧ i.bi ≤ 24) :
    Calls Tryz.prog 64 #[i.v, h.v, .int .i64 index, .bool short] w fun e w' => e = .returned (.int .i64 (nextE i h index short)) ∧ Below w.heap.size w w' := by
  obtain ⟨R, hR⟩ : ∃ R, R = nextE i h index short := ⟨_, rfl⟩
  rw [← hR]
  obtain ⟨ik, ich, ibi, ira, ibl, ish⟩ := i
  obtain ⟨hk, hidx, hlen, hstp, hbnd, hlst, hlnk, hsiz⟩ := h
  unfold InfoV.v HeadV.v
  unfold nextE at hR
  simp only at hR hbi ⊢
  have hb1 : Below w.heap.size w ((w.alloc (.cells #[.int .i64 ik, .int .i64 ich, .int .i64 ibi, .int .i64 ira, .int .i64 ibl, .int .i64 ish] 27)).alloc (.cells #[.int .i64 hk, .int .i64 hidx, .int .i64 hlen, .int .i64 hstp, .int .i64 hbnd, .bool hlst, .int .u32 hlnk, .int .i64 hsiz] 67)) := ((Below.refl _ w).alloc (Nat.le_refl _) _).alloc (by simp) _
  by_cases h1 : hk = ik
  case neg =>
    have d1 : (hk != ik) = true := by simpa using h1
    obtain rfl : R = 31 := by rw [hR, if_pos h1]
    clear hR h1
    go_enter Tryz.func64, Tryz.ntmps64
    go_wp2_with fail
    go_ret
    exact ⟨rfl, hb1⟩
  have d1 : (hk != ik) = false := by simpa using h1
  rw [if_neg (by rw [h1]; simp)] at hR
  clear h1
  by_cases h2 : hidx = index
  case neg =>
    have d2 : (hidx != index) = true := by simpa using h2
    obtain rfl : R = 35 := by rw [hR, if_pos h2]
    clear hR h2
    go_enter Tryz.func64, Tryz.ntmps64
    go_wp2_with fail
    go_ret
    exact ⟨rfl, hb1⟩
  have d2 : (hidx != index) = false := by simpa using h2
  rw [if_neg (by rw [h2]; simp)] at hR
  clear h2
  cases short with
  | true =>
    obtain rfl : R = 22 := by rw [hR, if_pos (.inl rfl)]
    clear hR
    go_enter Tryz.func64, Tryz.ntmps64
    go_wp2_with fail
    go_ret
    exact ⟨rfl, hb1⟩
  | false =>
    by_cases h3 : ibl < hlen
    · have d3 : decide (ibl < hlen) = true := decide_eq_true h3
      obtain rfl : R = 22 := by rw [hR, if_pos (.inr h3)]
      clear hR h3
      go_enter Tryz.func64, Tryz.ntmps64
      go_wp2_with fail
      go_ret
      exact ⟨rfl, hb1⟩
    have d3 : decide (ibl < hlen) = false := decide_eq_false h3
    rw [if_neg (by simp; omega)] at hR
    have hst := hid (fun W => stepq_any hstp ibi W)
    cases hs : stepR hstp ibi with
    | false =>
      rw [hs] at hst hR
      obtain rfl : R = 32 := by rw [hR, if_pos rfl]
      clear hR hs h3
      go_enter Tryz.func64, Tryz.ntmps64
      go_wp2_with fail
      refine (hst.out _).mono ?_
      rintro e w1 ⟨rfl, rfl⟩
      go_wp2_with fail
      go_ret
      exact ⟨rfl, hb1⟩
    | true =>
      rw [hs] at hst hR
      obtain rfl : R = 0 := by rw [hR, if_neg (by simp)]
      clear hR hs h3
      go_enter Tryz.func64, Tryz.ntmps64
      go_wp2_with fail
      refine (hst.out _).mono ?_
      rintro e w1 ⟨rfl, rfl⟩
      go_wp2_with fail
      go_ret
      exact ⟨rfl, hb1⟩
set_option maxRecDepth 20000 in
set_option maxHeartbeats 4000000 in
theorem rfnext_any (i : InfoV) (h : HeadV) (index : Int) (short : Bool) (w : World) (hbi : 8 ≤ i.bi ∧ i.bi ≤ 24) :
    Calls Tryz.prog 20 #[i.v, h.v, .int .i64 index, .bool short] w fun e w' => e = .returned (.int .i64 (nextE i h index short)) ∧ Below w.heap.size w w' := by
  obtain ⟨R, hR⟩ : ∃ R, R = nextE i h index short := ⟨_, rfl⟩
  rw [← hR]
  obtain ⟨ik, ich, ibi, ira, ibl, ish⟩ := i
  obtain ⟨hk, hidx, hlen, hstp, hbnd, hlst, hlnk, hsiz⟩ := h
  unfold InfoV.v HeadV.v
  unfold nextE at hR
  simp only at hR hbi ⊢
  have hb1 : Below w.heap.size w ((w.alloc (.cells #[.int .i64 ik, .int .i64 ich, .int .i64 ibi, .int .i64 ira, .int .i64 ibl, .int .i64 ish] 27)).alloc (.cells #[.int .i64 hk, .int .i64 hidx, .int .i64 hlen, .int .i64 hstp, .int .i64 hbnd, .bool hlst, .int .u32 hlnk, .int .i64 hsiz] 67)) := ((Below.refl _ w).alloc (Nat.le_refl _) _).alloc (by simp) _
  by_cases h1 : hk = ik
  case neg =>
    have d1 : (hk != ik) = true := by simpa using h1
    obtain rfl : R = 31 := by rw [hR, if_pos h1]
    clear hR h1
    go_enter Tryz.func20, Tryz.ntmps20
    go_wp2_with fail
    go_ret
    exact ⟨rfl, hb1⟩
  have d1 : (hk != ik) = false := by simpa using h1
  rw [if_neg (by rw [h1]; simp)] at hR
  clear h1
  by_cases h2 : hidx = index
  case neg =>
    have d2 : (hidx != index) = true := by simpa using h2
    obtain rfl : R = 35 := by rw [hR, if_pos h2]
    clear hR h2
    go_enter Tryz.func20, Tryz.ntmps20
    go_wp2_with fail
    go_ret
    exact ⟨rfl, hb1⟩
  have d2 : (hidx != index) = false := by simpa using h2
  rw [if_neg (by rw [h2]; simp)] at hR
  clear h2
  cases short with
  | true =>
    obtain rfl : R = 22 := by rw [hR, if_pos (.inl rfl)]
    clear hR
    go_enter Tryz.func20, Tryz.ntmps20
    go_wp2_with fail
    go_ret
    exact ⟨rfl, hb1⟩
  | false =>
    by_cases h3 : ibl < hlen
    · have d3 : decide (ibl < hlen) = true := decide_eq_true h3
      obtain rfl : R = 22 := by rw [hR, if_pos (.inr h3)]
      clear hR h3
      go_enter Tryz.func20, Tryz.ntmps20
      go_wp2_with fail
      go_ret
      exact ⟨rfl, hb1⟩
    have d3 : decide (ibl < hlen) = false := decide_eq_false h3
    rw [if_neg (by simp; omega)] at hR
    have hst := hid (fun W => rstepq_any hstp ibi W hbi)
    cases hs : stepR hstp ibi with
    | false =>
      rw [hs] at hst hR
      obtain rfl : R = 32 := by rw [hR, if_pos rfl]
      clear hR hs h3
      go_enter Tryz.func20, Tryz.ntmps20
      go_wp2_with fail
      refine (hst.out _).mono ?_
      rintro e w1 ⟨rfl, rfl⟩
      go_wp2_with fail
      go_ret
      exact ⟨rfl, hb1⟩
    | true =>
      rw [hs] at hst hR
      obtain rfl : R = 0 := by rw [hR, if_neg (by simp)]
      clear hR hs h3
      go_enter Tryz.func20, Tryz.ntmps20
      go_wp2_with fail
      refine (hst.out _).mono ?_
      rintro e w1 ⟨rfl, rfl⟩
      go_wp2_with fail
      go_ret
      exact ⟨rfl, hb1⟩
end Go.Proofs.YtkmhmehofipehaaGreatDoor
/- Slices of whole numbers, and what their last three bits are. -/
namespace Go.Proofs.YtkmhmehofipehaaGreatDoor
set_option linter.unusedVariables false
open Go.RowKit
def intV (x : Int) : Value := .int .i64 x
def SeesI (w : World) (A : Option Addr) (l : List Int) : Prop := Sees w A (l.map intV)
theorem SeesI.at {w : World} {A : Option Addr} {l : List Int} (h : SeesI w A l) {i : Nat} (hi : i < l.length) :
    ∃ a, A = some a ∧ w.cell? (a.add i) = some (.int .i64 l[i]) := h i (intV l[i]) (by rw [List.getElem?_map, List.getElem?_eq_getElem hi]; rfl)
theorem SeesI.below {w w' : World} {A : Option Addr} {l : List Int} (h : SeesI w A l) (hk : Below w.heap.size w w') : SeesI w' A l := Sees.below h hk
theorem elI : Elem Tryz.prog 31 3 1 8 := Elem.mk' Tryz.underlying31 (z := .int .i64 0) (by kernel_rfl) rfl (by omega)
end Go.Proofs.YtkmhmehofipehaaGreatDoor
/- Rows of the call's own beside a maker. -/
namespace Go.Proofs.YtkmhmehofipehaaGreatDoor
set_option linter.unusedVariables false
open Go.RowKit
/-- what an append of a row turns is that row alone -/
theorem But.of_grown {B : Nat} {w w' : World} {v : Value} (hg : w.grownBy w' v.ownBlock) (hb : Below B w w') : But (fun b => v.ownBlock = some b) w w' :=
  ⟨hb.os, hb.tape, hb.output, hb.size, fun n hn h => hg.block n hn (fun hh => h hh.symm)⟩
/-- a row of the call's own stays where others turn -/
theorem own_but {R : Nat → Prop} {w w' : World} {base n size : Nat} {e : TypeId} {v : Value} {xs : List Value} (h : w.ownsRow base e size v n xs) (hb : But R w w') (hR : ∀ k, v.ownBlock = some k → ¬ R k) : w'.ownsRow base e size v n xs := by
  refine ⟨h.1, ?_⟩
  rcases h.2 with h0 | ⟨g, cap, cur, hv, h1, h2, h3⟩
  · exact .inl h0
  · exact .inr ⟨g, cap, cur, hv, h1, (hb.block g (Array.getElem?_eq_some_iff.1 h2).1 (hR g (by rw [hv]; rfl))).trans h2, h3⟩
theorem own_lt {w : World} {base n size : Nat} {e : TypeId} {v : Value} {xs : List Value} (h : w.ownsRow base e size v n xs) {k : Nat} (hk : v.ownBlock = some k) : k < w.heap.size := by
  rcases h.2 with ⟨rfl, _⟩ | ⟨g, cap, cur, rfl, h1, h2, h3⟩
  · simp [Value.ownBlock] at hk
  · have : g = k := by simpa [Value.ownBlock] using hk
    subst this; exact (Array.getElem?_eq_some_iff.1 h2).1
end Go.Proofs.YtkmhmehofipehaaGreatDoor
/- A file on its way: what is noted of the next block. -/
namespace Go.Proofs.YtkmhmehofipehaaGreatDoor
set_option linter.unusedVariables false
open Go.RowKit
theorem undrewF {B : Nat} {w w' : World} (h : Below B w.drew w') : Below B w w' := ⟨h.os, h.tape, h.output, h.size, h.block⟩
set_option maxRecDepth 20000 in
set_option maxHeartbeats 4000000 in
theorem mnext_bad (m : Nat) (cs : Array Value) (t : TypeId) (i : InfoV) (h : HeadV) (at_ : Int) (np cp : Nat) (Ap : Option Addr) (short : Bool) (w : World) (hbi : 8 ≤ i.bi ∧ i.bi ≤ 24)
    (hm : w.heap[m]? = some (.cells cs t (0, 0))) (h1 : cs[1]? = some (.int .i64 i.k)) (h2 : cs[2]? = some (.int .i64 i.ch)) (h3 : cs[3]? = some (.int .i64 i.bi)) (h4 : cs[4]? = some (.int .i64 i.ra)) (h5 : cs[5]? = some (.int .i64 i.bl)) (h6 : cs[6]? = some (.int .i64 i.sh))
    (h8 : cs[8]? = some (.slice Ap np cp)) (h10 : cs[10]? = some (.bool short)) (hE : nextE i h np short ≠ 0) :
    Calls Tryz.prog 31 #[.pointer (some ⟨m, 0, none⟩), h.v, .int .i64 at_] w fun e w' => e = .returned (.int .i64 (nextE i h np short)) ∧ Below w.heap.size w w' := by
  have hN := hid (fun W => fnext_any i h np short W hbi)
  obtain ⟨E, hEE⟩ : ∃ E, E = nextE i h np short := ⟨_, rfl⟩
  rw [← hEE] at hN hE ⊢
  clear hEE
  have dE : (E != 0) = true := by simpa using hE
  obtain ⟨ik, ich, ibi, ira, ibl, ish⟩ := i
  obtain ⟨hk, hidx, hlen, hstp, hbnd, hlst, hlnk, hsiz⟩ := h
  unfold InfoV.v HeadV.v at hN
  unfold HeadV.v
  simp only at h1 h2 h3 h4 h5 h6 hN hbi ⊢
  have hmlt := (Array.getElem?_eq_some_iff.1 hm).1
  have hb0 : Below w.heap.size w (w.alloc (.cells #[.int .i64 hk, .int .i64 hidx, .int .i64 hlen, .int .i64 hstp, .int .i64 hbnd, .bool hlst, .int .u32 hlnk, .int .i64 hsiz] 67)) := (Below.refl _ w).alloc (Nat.le_refl _) _
  have hrow := heap_alloc_new w (.cells #[.int .i64 hk, .int .i64 hidx, .int .i64 hlen, .int .i64 hstp, .int .i64 hbnd, .bool hlst, .int .u32 hlnk, .int .i64 hsiz] 67)
  have hm0 := (hb0.block m hmlt).trans hm
  go_enter Tryz.func31, Tryz.ntmps31
  go_wp2_with fail
  generalize w.alloc (.cells #[.int .i64 hk, .int .i64 hidx, .int .i64 hlen, .int .i64 hstp, .int .i64 hbnd, .bool hlst, .int .u32 hlnk, .int .i64 hsiz] 67) = w0 at *
  have c1 : w0.cell? ⟨m, 1, none⟩ = some (.int .i64 ik) := by rw [cell_of_row _ _ _ _ _ _ hm0]; exact h1
  have c2 : w0.cell? ⟨m, 2, none⟩ = some (.int .i64 ich) := by rw [cell_of_row _ _ _ _ _ _ hm0]; exact h2
  have c3 : w0.cell? ⟨m, 3, none⟩ = some (.int .i64 ibi) := by rw [cell_of_row _ _ _ _ _ _ hm0]; exact h3
  have c4 : w0.cell? ⟨m, 4, none⟩ = some (.int .i64 ira) := by rw [cell_of_row _ _ _ _ _ _ hm0]; exact h4
  have c5 : w0.cell? ⟨m, 5, none⟩ = some (.int .i64 ibl) := by rw [cell_of_row _ _ _ _ _ _ hm0]; exact h5
  have c6 : w0.cell? ⟨m, 6, none⟩ = some (.int .i64 ish) := by rw [cell_of_row _ _ _ _ _ _ hm0]; exact h6
  have c8 : w0.cell? ⟨m, 8, none⟩ = some (.slice Ap np cp) := by rw [cell_of_row _ _ _ _ _ _ hm0]; exact h8
  have c10 : w0.cell? ⟨m, 10, none⟩ = some (.bool short) := by rw [cell_of_row _ _ _ _ _ _ hm0]; exact h10
  have e0 : w0.cell? ⟨w.heap.size, 0, none⟩ = some (.int .i64 hk) := by rw [cell_of_row _ _ _ _ _ _ hrow]; rfl
  have e1 : w0.cell? ⟨w.heap.size, 1, none⟩ = some (.int .i64 hidx) := by rw [cell_of_row _ _ _ _ _ _ hrow]; rfl
  have e2 : w0.cell? ⟨w.heap.size, 2, none⟩ = some (.int .i64 hlen) := by rw [cell_of_row _ _ _ _ _ _ hrow]; rfl
  have e3 : w0.cell? ⟨w.heap.size, 3, none⟩ = some (.int .i64 hstp) := by rw [cell_of_row _ _ _ _ _ _ hrow]; rfl
  have e4 : w0.cell? ⟨w.heap.size, 4, none⟩ = some (.int .i64 hbnd) := by rw [cell_of_row _ _ _ _ _ _ hrow]; rfl
  have e5 : w0.cell? ⟨w.heap.size, 5, none⟩ = some (.bool hlst) := by rw [cell_of_row _ _ _ _ _ _ hrow]; rfl
  have e6 : w0.cell? ⟨w.heap.size, 6, none⟩ = some (.int .u32 hlnk) := by rw [cell_of_row _ _ _ _ _ _ hrow]; rfl
  have e7 : w0.cell? ⟨w.heap.size, 7, none⟩ = some (.int .i64 hsiz) := by rw [cell_of_row _ _ _ _ _ _ hrow]; rfl
  clear hm hm0 hrow h1 h2 h3 h4 h5 h6 h8 h10 hE
  go_region_held3 (fun w' => w'.cell? ⟨m, 1, none⟩ = some (.int .i64 ik) ∧ w'.cell? ⟨m, 2, none⟩ = some (.int .i64 ich) ∧ w'.cell? ⟨m, 3, none⟩ = some (.int .i64 ibi) ∧ w'.cell? ⟨m, 4, none⟩ = some (.int .i64 ira) ∧ w'.cell? ⟨m, 5, none⟩ = some (.int .i64 ibl) ∧ w'.cell? ⟨m, 6, none⟩ = some (.int .i64 ish) ∧ w'.cell? ⟨m, 8, none⟩ = some (.slice Ap np cp) ∧ w'.cell? ⟨m, 10, none⟩ = some (.bool short) ∧ w'.cell? ⟨w.heap.size, 0, none⟩ = some (.int .i64 hk) ∧ w'.cell? ⟨w.heap.size, 1, none⟩ = some (.int .i64 hidx) ∧ w'.cell? ⟨w.heap.size, 2, none⟩ = some (.int .i64 hlen) ∧ w'.cell? ⟨w.heap.size, 3, none⟩ = some (.int .i64 hstp) ∧ w'.cell? ⟨w.heap.size, 4, none⟩ = some (.int .i64 hbnd) ∧ w'.cell? ⟨w.heap.size, 5, none⟩ = some (.bool hlst) ∧ w'.cell? ⟨w.heap.size, 6, none⟩ = some (.int .u32 hlnk) ∧ w'.cell? ⟨w.heap.size, 7, none⟩ = some (.int .i64 hsiz))
    (first | exact ⟨c1, c2, c3, c4, c5, c6, c8, c10, e0, e1, e2, e3, e4, e5, e6, e7⟩ | exact ⟨f1, f2, f3, f4, f5, f6, f8, f10, k0, k1, k2, k3, k4, k5, k6, k7⟩ | go_keep)
    (first | (go_at_call 64; refine (hN.out _).mono ?_; rintro e w1 ⟨rfl, hb1⟩; have f1 := keep1 hb1 c1; have f2 := keep1 hb1 c2; have f3 := keep1 hb1 c3; have f4 := keep1 hb1 c4; have f5 := keep1 hb1 c5; have f6 := keep1 hb1 c6; have f8 := keep1 hb1 c8; have f10 := keep1 hb1 c10; have k0 := keep1 hb1 e0; have k1 := keep1 hb1 e1; have k2 := keep1 hb1 e2; have k3 := keep1 hb1 e3; have k4 := keep1 hb1 e4; have k5 := keep1 hb1 e5; have k6 := keep1 hb1 e6; have k7 := keep1 hb1 e7))
  have hbw := hb0.trans ((undrewF hb1).mono hb0.size)
  clear c1 f1 c2 f2 c3 f3 c4 f4 c5 f5 c6 f6 c8 f8 c10 f10 e0 k0 e1 k1 e2 k2 e3 k3 e4 k4 e5 k5 e6 k6 e7 k7 hb1
  go_wp2_with fail
  go_ret
  exact ⟨rfl, hbw⟩
/-- what next leaves where the block may be next -/
def MNext (base m : Nat) (cs : Array Value) (t : TypeId) (pl : List Int) (Ap : Option Addr) (cp : Nat) (at_ cnt : Int) (short : Bool) (w : World) (e : Ending) (w' : World) : Prop :=
  e = .returned (.int .i64 0) ∧ ∃ (Aq : Option Addr) (cq : Nat), w'.heap[m]? = some (.cells (((cs.setIfInBounds 8 (.slice Aq (pl.length + 1) cq)).setIfInBounds 9 (.int .i64 cnt)).setIfInBounds 10 (.bool short)) t (0, 0)) ∧
    w'.ownsRow base 3 1 (.slice Aq (pl.length + 1) cq) (pl.length + 1) ((pl ++ [at_]).map intV) ∧ But (fun b => b = m ∨ (Value.slice Ap pl.length cp).ownBlock = some b) w w' ∧
    ((Value.slice Aq (pl.length + 1) cq).ownBlock = (Value.slice Ap pl.length cp).ownBlock ∨ ∃ k, (Value.slice Aq (pl.length + 1) cq).ownBlock = some k ∧ w.heap.size ≤ k)
set_option maxRecDepth 20000 in
set_option maxHeartbeats 4000000 in
theorem mnext_ok (m : Nat) (cs : Array Value) (t : TypeId) (i : InfoV) (h : HeadV) (at_ : Int) (np cp : Nat) (Ap : Option Addr) (short : Bool) (w : World) (hbi : 8 ≤ i.bi ∧ i.bi ≤ 24)
    (hm : w.heap[m]? = some (.cells cs t (0, 0))) (h1 : cs[1]? = some (.int .i64 i.k)) (h2 : cs[2]? = some (.int .i64 i.ch)) (h3 : cs[3]? = some (.int .i64 i.bi)) (h4 : cs[4]? = some (.int .i64 i.ra)) (h5 : cs[5]? = some (.int .i64 i.bl)) (h6 : cs[6]? = some (.int .i64 i.sh))
    (h8 : cs[8]? = some (.slice Ap np cp)) (h10 : cs[10]? = some (.bool short)) (cnt : Int) (h9 : cs[9]? = some (.int .i64 cnt)) (base : Nat) (pl : List Int) (hpl : np = pl.length) (hown : w.ownsRow base 3 1 (.slice Ap np cp) np (pl.map intV)) (hbase : base ≤ w.heap.size) (ht : 3 ≠ t) (hp : pl.length ≤ 100000) (hcnt : 0 ≤ cnt ∧ cnt ≤ 1000000000000000) (hhl : 0 ≤ h.len ∧ h.len ≤ 1000000) (hE : nextE i h np short = 0) :
    Calls Tryz.prog 31 #[.pointer (some ⟨m, 0, none⟩), h.v, .int .i64 at_] w (MNext base m cs t pl Ap cp at_ (cnt + h.len) (decide (h.len < i.bl)) w) := by
  have hN := hid (fun W => fnext_any i h np short W hbi)
  obtain ⟨E, hEE⟩ : ∃ E, E = nextE i h np short := ⟨_, rfl⟩
  rw [← hEE] at hN hE
  have HE := hid hE
  clear hEE hE
  obtain ⟨ik, ich, ibi, ira, ibl, ish⟩ := i
  obtain ⟨hk, hidx, hlen, hstp, hbnd, hlst, hlnk, hsiz⟩ := h
  unfold InfoV.v HeadV.v at hN
  unfold HeadV.v
  simp only at h1 h2 h3 h4 h5 h6 hN hbi ⊢
  have hmlt := (Array.getElem?_eq_some_iff.1 hm).1
  have hb0 : Below w.heap.size w (w.alloc (.cells #[.int .i64 hk, .int .i64 hidx, .int .i64 hlen, .int .i64 hstp, .int .i64 hbnd, .bool hlst, .int .u32 hlnk, .int .i64 hsiz] 67)) := (Below.refl _ w).alloc (Nat.le_refl _) _
  have hrow := heap_alloc_new w (.cells #[.int .i64 hk, .int .i64 hidx, .int .i64 hlen, .int .i64 hstp, .int .i64 hbnd, .bool hlst, .int .u32 hlnk, .int .i64 hsiz] 67)
  have hm0 := (hb0.block m hmlt).trans hm
  simp only at hhl
  go_enter Tryz.func31, Tryz.ntmps31
  go_wp2_with fail
  generalize hw0 : w.alloc (.cells #[.int .i64 hk, .int .i64 hidx, .int .i64 hlen, .int .i64 hstp, .int .i64 hbnd, .bool hlst, .int .u32 hlnk, .int .i64 hsiz] 67) = w0 at *
  clear hw0
  have c1 : w0.cell? ⟨m, 1, none⟩ = some (.int .i64 ik) := by rw [cell_of_row _ _ _ _ _ _ hm0]; exact h1
  have c2 : w0.cell? ⟨m, 2, none⟩ = some (.int .i64 ich) := by rw [cell_of_row _ _ _ _ _ _ hm0]; exact h2
  have c3 : w0.cell? ⟨m, 3, none⟩ = some (.int .i64 ibi) := by rw [cell_of_row _ _ _ _ _ _ hm0]; exact h3
  have c4 : w0.cell? ⟨m, 4, none⟩ = some (.int .i64 ira) := by rw [cell_of_row _ _ _ _ _ _ hm0]; exact h4
  have c5 : w0.cell? ⟨m, 5, none⟩ = some (.int .i64 ibl) := by rw [cell_of_row _ _ _ _ _ _ hm0]; exact h5
  have c6 : w0.cell? ⟨m, 6, none⟩ = some (.int .i64 ish) := by rw [cell_of_row _ _ _ _ _ _ hm0]; exact h6
  have c8 : w0.cell? ⟨m, 8, none⟩ = some (.slice Ap np cp) := by rw [cell_of_row _ _ _ _ _ _ hm0]; exact h8
  have c10 : w0.cell? ⟨m, 10, none⟩ = some (.bool short) := by rw [cell_of_row _ _ _ _ _ _ hm0]; exact h10
  have e0 : w0.cell? ⟨w.heap.size, 0, none⟩ = some (.int .i64 hk) := by rw [cell_of_row _ _ _ _ _ _ hrow]; rfl
  have e1 : w0.cell? ⟨w.heap.size, 1, none⟩ = some (.int .i64 hidx) := by rw [cell_of_row _ _ _ _ _ _ hrow]; rfl
  have e2 : w0.cell? ⟨w.heap.size, 2, none⟩ = some (.int .i64 hlen) := by rw [cell_of_row _ _ _ _ _ _ hrow]; rfl
  have e3 : w0.cell? ⟨w.heap.size, 3, none⟩ = some (.int .i64 hstp) := by rw [cell_of_row _ _ _ _ _ _ hrow]; rfl
  have e4 : w0.cell? ⟨w.heap.size, 4, none⟩ = some (.int .i64 hbnd) := by rw [cell_of_row _ _ _ _ _ _ hrow]; rfl
  have e5 : w0.cell? ⟨w.heap.size, 5, none⟩ = some (.bool hlst) := by rw [cell_of_row _ _ _ _ _ _ hrow]; rfl
  have e6 : w0.cell? ⟨w.heap.size, 6, none⟩ = some (.int .u32 hlnk) := by rw [cell_of_row _ _ _ _ _ _ hrow]; rfl
  have e7 : w0.cell? ⟨w.heap.size, 7, none⟩ = some (.int .i64 hsiz) := by rw [cell_of_row _ _ _ _ _ _ hrow]; rfl
  have H5 := hid h5
  have H8 := hid h8
  have H9 := hid h9
  have H10 := hid h10
  have HPL := hid hpl
  have HOW := hid hown
  clear hm h1 h2 h3 h4 h5 h6 h8 h9 h10 hpl hown
  go_region_held3 (fun w' => w'.cell? ⟨m, 1, none⟩ = some (.int .i64 ik) ∧ w'.cell? ⟨m, 2, none⟩ = some (.int .i64 ich) ∧ w'.cell? ⟨m, 3, none⟩ = some (.int .i64 ibi) ∧ w'.cell? ⟨m, 4, none⟩ = some (.int .i64 ira) ∧ w'.cell? ⟨m, 5, none⟩ = some (.int .i64 ibl) ∧ w'.cell? ⟨m, 6, none⟩ = some (.int .i64 ish) ∧ w'.cell? ⟨m, 8, none⟩ = some (.slice Ap np cp) ∧ w'.cell? ⟨m, 10, none⟩ = some (.bool short) ∧ w'.cell? ⟨w.heap.size, 0, none⟩ = some (.int .i64 hk) ∧ w'.cell? ⟨w.heap.size, 1, none⟩ = some (.int .i64 hidx) ∧ w'.cell? ⟨w.heap.size, 2, none⟩ = some (.int .i64 hlen) ∧ w'.cell? ⟨w.heap.size, 3, none⟩ = some (.int .i64 hstp) ∧ w'.cell? ⟨w.heap.size, 4, none⟩ = some (.int .i64 hbnd) ∧ w'.cell? ⟨w.heap.size, 5, none⟩ = some (.bool hlst) ∧ w'.cell? ⟨w.heap.size, 6, none⟩ = some (.int .u32 hlnk) ∧ w'.cell? ⟨w.heap.size, 7, none⟩ = some (.int .i64 hsiz))
    (first | exact ⟨c1, c2, c3, c4, c5, c6, c8, c10, e0, e1, e2, e3, e4, e5, e6, e7⟩ | exact ⟨f1, f2, f3, f4, f5, f6, f8, f10, k0, k1, k2, k3, k4, k5, k6, k7⟩ | go_keep)
    (first | (go_at_call 64; refine (hN.out _).mono ?_; rintro e w1 ⟨rfl, hb1⟩; have f1 := keep1 hb1 c1; have f2 := keep1 hb1 c2; have f3 := keep1 hb1 c3; have f4 := keep1 hb1 c4; have f5 := keep1 hb1 c5; have f6 := keep1 hb1 c6; have f8 := keep1 hb1 c8; have f10 := keep1 hb1 c10; have k0 := keep1 hb1 e0; have k1 := keep1 hb1 e1; have k2 := keep1 hb1 e2; have k3 := keep1 hb1 e3; have k4 := keep1 hb1 e4; have k5 := keep1 hb1 e5; have k6 := keep1 hb1 e6; have k7 := keep1 hb1 e7))
  have hb1' := undrewF hb1
  have hm1 := (hb1'.block m (Array.getElem?_eq_some_iff.1 hm0).1).trans hm0
  have hg1 := (hb1'.block w.heap.size (Array.getElem?_eq_some_iff.1 hrow).1).trans hrow
  have hbw := hb0.trans (hb1'.mono hb0.size)
  clear c1 f1 c2 f2 c3 f3 c4 f4 c5 f5 c6 f6 c10 f10 c8 e0 k0 e1 k1 e2 k2 e3 k3 e4 k4 e5 k5 e6 k6 e7 k7 hb1 hb1' hm0 hrow hb0
  obtain rfl : E = 0 := HE.out
  have hown1 : w1.ownsRow base 3 1 (.slice Ap np cp) np (pl.map intV) := own_but HOW.out (But.of_below (R := fun _ => False) hbw) (fun _ _ h => h)
  have hlm1 := (Array.getElem?_eq_some_iff.1 hm1).1
  have hlg1 := (Array.getElem?_eq_some_iff.1 hg1).1
  have c8 : w1.cell? ⟨m, 8, none⟩ = some (.slice Ap np cp) := by rw [cell_of_row _ _ _ _ _ _ hm1]; exact H8.out
  have hba : Below w1.heap.size w1 (w1.alloc (.cells #[.int .i64 at_] 3)) := (Below.refl _ w1).alloc (Nat.le_refl _) _
  have HMM := hid (show pl.map intV ++ [intV at_] = (pl ++ [at_]).map intV by simp)
  have hmA := (hba.block m hlm1).trans hm1
  have hgA := (hba.block w.heap.size hlg1).trans hg1
  have hnp := HPL.out
  have hnp2 : np ≤ 100000 := by omega
  clear hnp
  have hmg : m ≠ w.heap.size := by omega
  have hownA := hown1.alloc (.cells #[.int .i64 at_] 3)
  have HNM := hid (own_other hownA hmA ht)
  have HNG := hid (own_other hownA hgA (show 3 ≠ 67 by decide))
  have hbaseA : base ≤ (w1.alloc (.cells #[.int .i64 at_] 3)).heap.size := Nat.le_trans hbase (Nat.le_trans hbw.size hba.size)
  have hwba := hbw.trans (hba.mono hbw.size)
  clear hown1
  go_wp2_with (at_builtin; refine wpList_app rfl (.tmp 30) (.tmp 32) _ rfl elI rfl hownA (some ⟨w1.heap.size, 0, none⟩) 1 1 rfl [intV at_] (Sees.of_alloc _ _ _ rfl) (by simp) (by simp [intV, Value.oneCell']) (np + 1) rfl _ HMM.out (by unfold maxLen; omega) (by omega) hbaseA ?_; intro A3 c3 w3 hown3 hgr hat hbel; have hm3 := (hgr.block m (Nat.lt_of_lt_of_le hlm1 hba.size) (fun hh => HNM.out hh.symm)).trans hmA; have hg3 := (hgr.block w.heap.size (Nat.lt_of_lt_of_le hlg1 hba.size) (fun hh => HNG.out hh.symm)).trans hgA; have c8b : w3.cell? ⟨m, 8, none⟩ = some (.slice Ap np cp) := (by rw [cell_of_row _ _ _ _ _ _ hm3]; exact H8.out); have f8b : w3.frozen? ⟨m, 8, none⟩ = false := frozen_of_row _ _ _ _ _ hm3)
  have hmk : m < w3.heap.size := (Array.getElem?_eq_some_iff.1 hm3).1
  have hR := hid (show But (fun b => b = m ∨ (Value.slice Ap np cp).ownBlock = some b) w w3 from (But.of_below hwba).trans (But.of_grown hgr hbel) (fun n h => .inl (.inr h)))
  have hm4 := heap_setCell_same w3 m 8 cs t (.slice A3 (np + 1) c3) hm3
  have hg4 := (heap_setCell_other w3 ⟨m, 8, none⟩ w.heap.size (.slice A3 (np + 1) c3) (Ne.symm hmg)).trans hg3
  have hB4 : But (Only m) w3 (w3.setCell ⟨m, 8, none⟩ (.slice A3 (np + 1) c3)) := ⟨rfl, rfl, rfl, by simp [World.setCell], fun b _ hb => heap_setCell_other w3 _ b _ (fun h => hb h)⟩
  have hown4 := own_but hown3 hB4 (fun k hk hh => own_other hown3 hm3 ht (by have h2 : k = m := hh; rw [← h2]; exact hk))
  have hR4 := hid (hR.out.trans hB4 (fun n h => .inl (.inl h)))
  have HAT := hid (show (Value.slice A3 (np + 1) c3).ownBlock = (Value.slice Ap np cp).ownBlock ∨ ∃ k, (Value.slice A3 (np + 1) c3).ownBlock = some k ∧ w.heap.size ≤ k from hat.imp id (fun h => ⟨_, h, hwba.size⟩))
  clear hm3 hg3 hB4 hown3 hR c8b f8b hgr hat hbel hmA hgA hownA hm1 hg1 c8 hba hbaseA hwba hbw HNM HNG HMM
  generalize w3.setCell ⟨m, 8, none⟩ (.slice A3 (np + 1) c3) = w4 at *
  obtain ⟨cs4, hcs4⟩ : ∃ cs4, cs4 = cs.setIfInBounds 8 (.slice A3 (np + 1) c3) := ⟨_, rfl⟩
  rw [← hcs4] at hm4
  have hw9 : wrap64 (cnt + hlen) = cnt + hlen := by unfold wrap64; omega
  have d9 : w4.cell? ⟨m, 9, none⟩ = some (.int .i64 cnt) := by rw [cell_of_row _ _ _ _ _ _ hm4, hcs4, Array.getElem?_setIfInBounds_ne (by decide)]; exact H9.out
  have f9 : w4.frozen? ⟨m, 9, none⟩ = false := frozen_of_row _ _ _ _ _ hm4
  have d2 : w4.cell? ⟨w.heap.size, 2, none⟩ = some (.int .i64 hlen) := by rw [cell_of_row _ _ _ _ _ _ hg4]; rfl
  have HCS := hid hcs4
  clear hcs4
  go_region
  have hm5 : (w4.setCell ⟨m, 9, none⟩ (.int .i64 (cnt + hlen))).drew.heap[m]? = _ := heap_setCell_same w4 m 9 cs4 t (.int .i64 (cnt + hlen)) hm4
  have hg5 : (w4.setCell ⟨m, 9, none⟩ (.int .i64 (cnt + hlen))).drew.heap[w.heap.size]? = _ := (heap_setCell_other w4 ⟨m, 9, none⟩ w.heap.size (.int .i64 (cnt + hlen)) (Ne.symm hmg)).trans hg4
  have hB5 : But (Only m) w4 (w4.setCell ⟨m, 9, none⟩ (.int .i64 (cnt + hlen))).drew := ⟨rfl, rfl, rfl, by simp [World.setCell], fun b _ hb => heap_setCell_other w4 _ b _ (fun h => hb h)⟩
  have hown5 := own_but hown4 hB5 (fun k hk hh => own_other hown4 hm4 ht (by have h2 : k = m := hh; rw [← h2]; exact hk))
  have hR5 := hid (hR4.out.trans hB5 (fun n h => .inl (.inl h)))
  clear hB5 hown4 hm4 hg4 hR4 d9 f9 d2 hw9
  generalize (w4.setCell ⟨m, 9, none⟩ (.int .i64 (cnt + hlen))).drew = w5 at *
  obtain ⟨cs5, hcs5⟩ : ∃ cs5, cs5 = cs4.setIfInBounds 9 (.int .i64 (cnt + hlen)) := ⟨_, rfl⟩
  rw [← hcs5] at hm5
  have d5 : w5.cell? ⟨m, 5, none⟩ = some (.int .i64 ibl) := by rw [cell_of_row _ _ _ _ _ _ hm5, hcs5, Array.getElem?_setIfInBounds_ne (by decide), HCS.out, Array.getElem?_setIfInBounds_ne (by decide)]; exact H5.out
  have f10 : w5.frozen? ⟨m, 10, none⟩ = false := frozen_of_row _ _ _ _ _ hm5
  have d10 : w5.cell? ⟨m, 10, none⟩ = some (.bool short) := by rw [cell_of_row _ _ _ _ _ _ hm5, hcs5, Array.getElem?_setIfInBounds_ne (by decide), HCS.out, Array.getElem?_setIfInBounds_ne (by decide)]; exact H10.out
  have d2 : w5.cell? ⟨w.heap.size, 2, none⟩ = some (.int .i64 hlen) := by rw [cell_of_row _ _ _ _ _ _ hg5]; rfl
  have HCS5 := hid hcs5
  clear hcs5
  go_wp2_with fail
  go_region
  have hm6 : (w5.setCell ⟨m, 10, none⟩ (.bool (decide (hlen < ibl)))).drew.heap[m]? = _ := heap_setCell_same w5 m 10 cs5 t (.bool (decide (hlen < ibl))) hm5
  have hB6 : But (Only m) w5 (w5.setCell ⟨m, 10, none⟩ (.bool (decide (hlen < ibl)))).drew := ⟨rfl, rfl, rfl, by simp [World.setCell], fun b _ hb => heap_setCell_other w5 _ b _ (fun h => hb h)⟩
  have hown6 := own_but hown5 hB6 (fun k hk hh => own_other hown5 hm5 ht (by have h2 : k = m := hh; rw [← h2]; exact hk))
  have hR6 := hR5.out.trans hB6 (fun n h => .inl (.inl h))
  have hfin : MNext base m cs t pl Ap cp at_ (cnt + hlen) (decide (hlen < ibl)) w (.returned (.int .i64 0)) (w5.setCell ⟨m, 10, none⟩ (.bool (decide (hlen < ibl)))).drew := by
    have e := HPL.out
    subst e
    refine ⟨rfl, A3, c3, ?_, hown6, hR6, HAT.out⟩
    rw [hm6, HCS5.out, HCS.out]
  clear hm6 hB6 hown6 hR6 hown5 hR5 hm5 hg5 d5 f10 d10 d2
  go_wp2_with fail
  go_ret
  exact hfin
end Go.Proofs.YtkmhmehofipehaaGreatDoor
