/- A region that draws its order, with two operations (k, and m that waits for k) that turn the world from state 0 to 1 and to 2; each other operation yields one value in any state, and keeps it: all orders come to one end. -/
import Derived.Test.YtkmhmehofipehaaDoorFileBuildsM6
import Derived.Test.YtkmhmehofipehaaDoorFileBuildsM7
import Derived.Test.YtkmhmehofipehaaDoorFileBuildsM8
import Derived.Deep.RegionHeld3
namespace Go.Proofs.YtkmhmehofipehaaDoor
set_option linter.unusedVariables false
open Go.RowKit
section
variable {P : Program} {ops : Array Oper} {md : Region.Mode} {S : Nat → World → Prop} {k m : Nat}
def HeldAt3 (P : Program) (ops : Array Oper) (S : Nat → World → Prop) (k m i : Nat) (o : Oper) (v : Value) (a : Act) : Prop :=
  (Region.wanted o (yielded ops a.tmps) = true ∧ (i ≠ k ∧ i ≠ m) ∧ ∀ b w, S b w → HeldUpon P (S b) v ((execOp a.eval o).run P w)) ∨
  (Region.wanted o (yielded ops a.tmps) = true ∧ i = k ∧ ∀ w, S 0 w → HeldUpon P (S 1) v ((execOp a.eval o).run P w)) ∨
  (Region.wanted o (yielded ops a.tmps) = true ∧ i = m ∧ ∀ w, S 1 w → HeldUpon P (S 2) v ((execOp a.eval o).run P w)) ∨
  (Region.wanted o (yielded ops a.tmps) = false ∧ (i ≠ k ∧ i ≠ m) ∧ v = undef)
def hOp3 (P : Program) (ops : Array Oper) (S : Nat → World → Prop) (k m i : Nat) (K : Act → Prop) (a : Act) : Prop :=
  match ops[i]? with
  | none => K a
  | some o => ∃ v, HeldAt3 P ops S k m i o v a ∧ K (a.put o.dst v)
theorem hOp3_mono {i : Nat} {a : Act} {K K' : Act → Prop} (h : ∀ a, K a → K' a) (hh : hOp3 P ops S k m i K a) : hOp3 P ops S k m i K' a := by
  unfold hOp3 at *
  split
  · exact h _ (by simpa [*] using hh)
  · rename_i o ho
    simp only [ho] at hh
    obtain ⟨v, h1, h2⟩ := hh
    exact ⟨v, h1, h _ h2⟩
theorem HeldAt3.of_same {i : Nat} {o : Oper} {v : Value} {a a' : Act} (hy : HeldAt3 P ops S k m i o v a) (he : execOp a'.eval o = execOp a.eval o)
    (hw : Region.wanted o (yielded ops a'.tmps) = Region.wanted o (yielded ops a.tmps)) : HeldAt3 P ops S k m i o v a' := by
  unfold HeldAt3 at *
  rw [he, hw]
  exact hy
theorem hOp3_put {i j : Nat} {oi oj : Oper} {v : Value} (hj : ops[j]? = some oj) (hap : oi.apart ops oj = true)
    (hsi : ∀ cs b, oi.op ≠ .select cs b) (hsj : ∀ cs b, oj.op ≠ .select cs b) {K : Act → Prop} {a : Act}
    (hy : HeldAt3 P ops S k m i oi v a) (h : hOp3 P ops S k m j K (a.put oi.dst v)) :
    hOp3 P ops S k m j (fun a' => HeldAt3 P ops S k m i oi v a' ∧ K (a'.put oi.dst v)) a := by
  obtain ⟨h1, h2, h3⟩ := Oper.apart_spec hap
  unfold hOp3 at *
  simp only [hj] at *
  obtain ⟨u, hu, hK⟩ := h
  refine ⟨u, ?_, ?_, ?_⟩
  · exact hu.of_same (execOp_put oj hsj a oi.dst v h1).symm (wanted_put oj a oi.dst v h1).symm
  · exact hy.of_same (execOp_put oi hsi a oj.dst u h3) (wanted_put oi a oj.dst u h3)
  · rw [← Act.put_comm a v u h2]; exact hK
def wpAnyT3 (P : Program) (md : Region.Mode) (ops : Array Oper) (S : Nat → World → Prop) (k m : Nat) (Q : Act → Prop) : Nat → Array Bool → Act → Prop
  | 0, listed, a => Region.ready md ops listed = [] ∧ (listed.getD k true = true ∧ listed.getD m true = true) ∧ Q a
  | fuel + 1, listed, a =>
    (Region.ready md ops listed = [] → (listed.getD k true = true ∧ listed.getD m true = true) ∧ Q a) ∧
    ∀ i ∈ Region.ready md ops listed, hOp3 P ops S k m i (wpAnyT3 P md ops S k m Q fuel (listed.setIfInBounds i true)) a
theorem wpAnyT3_first {Q : Act → Prop} {i : Nat} {oi : Oper} {v : Value} (hi : ops[i]? = some oi) (hsel : ∀ (j : Nat) (o : Oper) cs b, ops[j]? = some o → o.op ≠ .select cs b) :
    ∀ (fuel : Nat) (listed : Array Bool) (a : Act),
      (∀ j oj, ops[j]? = some oj → j ≠ i → listed.getD j true = false → (∀ e ∈ oj.after, Region.binds md e = true → e.on ≠ i) → oi.apart ops oj = true) →
      i ∈ Region.ready md ops listed → HeldAt3 P ops S k m i oi v a →
      wpAnyT3 P md ops S k m Q fuel (listed.setIfInBounds i true) (a.put oi.dst v) → wpAnyT3 P md ops S k m Q (fuel + 1) listed a := by
  intro fuel
  induction fuel with
  | zero =>
    intro listed a _ hr hy H
    refine ⟨fun h => (by rw [h] at hr; cases hr), fun j hj => ?_⟩
    by_cases hji : j = i
    · subst hji; unfold hOp3; simp only [hi]; exact ⟨v, hy, H⟩
    · have := ready_mono hj hji
      rw [H.1] at this
      cases this
  | succ fuel ih =>
    intro listed a hfree hr hy H
    refine ⟨fun h => (by rw [h] at hr; cases hr), fun j hj => ?_⟩
    by_cases hji : j = i
    · subst hji; unfold hOp3; simp only [hi]; exact ⟨v, hy, H⟩
    · have h1 := H.2 j (ready_mono hj hji)
      obtain ⟨hjun, oj, hoj, hall⟩ := mem_ready.1 hj
      have hnot : ∀ e ∈ oj.after, Region.binds md e = true → e.on ≠ i := fun e he hb heq => by
        have h1 := hall e he hb
        have h0 := (mem_ready.1 hr).1
        rw [heq] at h1
        rcases Nat.lt_or_ge i listed.size with h' | h'
        · simp [h'] at h0 h1; rw [h0] at h1; cases h1
        · simp [Array.getElem?_eq_none h'] at h1
      have h2 := hOp3_put hoj (hfree j oj hoj hji hjun hnot) (fun cs b => hsel i oi cs b hi) (fun cs b => hsel j oj cs b hoj) hy h1
      have hfree' : ∀ n ok, ops[n]? = some ok → n ≠ i → (listed.setIfInBounds j true).getD n true = false →
          (∀ e ∈ ok.after, Region.binds md e = true → e.on ≠ i) → oi.apart ops ok = true := fun n ok hk hki hun hno => by
        refine hfree n ok hk hki ?_ hno
        by_cases hjk : j = n
        · subst hjk; exact hjun
        · rw [getD_set_ne true hjk] at hun; exact hun
      refine hOp3_mono (fun a' h3 => ih (listed.setIfInBounds j true) a' hfree' (ready_mono hr (Ne.symm hji)) h3.1 ?_) h2
      rw [Array.setIfInBounds_comm _ _ hji]
      exact h3.2
/-- the operations, one by one, in the order of the text -/
def wpHeld3 (P : Program) (ops : Array Oper) (S : Nat → World → Prop) (k m : Nat) (Q : Act → Prop) : Nat → List Oper → Act → Prop
  | _, [], a => Q a
  | i, o :: rest, a => ∃ v, HeldAt3 P ops S k m i o v a ∧ wpHeld3 P ops S k m Q (i + 1) rest (a.put o.dst v)
theorem wpAnyT3_lex {Q : Act → Prop} (hs : Region.noSelect ops = true) : ∀ (l : List Oper) (c : Nat) (listed : Array Bool) (a : Act), (∀ j, l[j]? = ops[c + j]?) → listed.size = ops.size → (∀ j, j < c → listed.getD j true = true) →
    Region.lexFrom md ops l.length c listed = true → wpHeld3 P ops S k m Q c l a → wpAnyT3 P md ops S k m Q l.length listed a
  | [], c, listed, a, hl, hsz, hd, hB, h => ⟨by simpa [Region.lexFrom] using hB, by
      have hc : ops.size ≤ c := by have := hl 0; simpa using this
      have key : ∀ x, listed.getD x true = true := fun x => by
        rcases Nat.lt_or_ge x c with h1 | h1
        · exact hd x h1
        · have h2 : listed.size ≤ x := by omega
          simp [Array.getElem?_eq_none h2]
      exact ⟨key k, key m⟩, h⟩
  | o :: l, c, listed, a, hl, hsz, hd, hB, h => by
    have h0 : ops[c]? = some o := by simpa using (hl 0).symm
    simp only [List.length_cons, Region.lexFrom, Bool.and_eq_true] at hB
    obtain ⟨⟨hr, hf⟩, hB'⟩ := hB
    obtain ⟨v, hy, hK⟩ := h
    refine wpAnyT3_first h0 (Region.noSelect_spec hs) l.length listed a (Region.free_spec h0 hf) (by simpa using hr) hy
      (wpAnyT3_lex hs l (c + 1) _ _ (fun j => by have := hl (j + 1); simpa [Nat.add_assoc, Nat.add_comm 1 j] using this) (by simpa using hsz) (fun j hj => ?_) hB' hK)
    by_cases hjc : c = j
    · subst hjc; exact getD_set_self _ _
    · rw [getD_set_ne true hjc]; exact hd j (by omega)
def stOf (k m : Nat) (listed : Array Bool) : Nat := if listed.getD m true = true then 2 else if listed.getD k true = true then 1 else 0
theorem wpOp_of_hOp3 {i : Nat} {a : Act} {w : World} {b b' : Nat} {K : Act → Prop} {K' : Act → World → Prop} {Q' : Exit → Act → World → Prop} (hi : (i ≠ k ∧ i ≠ m → b' = b) ∧ (i = k → b = 0 ∧ b' = 1) ∧ (i = m → b = 1 ∧ b' = 2)) (hw : S b w) (h : ∀ a w, S b' w → K a → K' a w) (hh : hOp3 P ops S k m i K a) (hin : i < ops.size) : wpOp P ops Q' i K' a w := by
  unfold hOp3 at hh
  unfold wpOp
  split
  · rename_i ho; rw [Array.getElem?_eq_none_iff] at ho; omega
  · rename_i o ho
    simp only [ho] at hh
    obtain ⟨v, hy, hK⟩ := hh
    have fin : ∀ r : Result Next, HeldUpon P (S b') v r → Oper.upon P o a K' Q' r := fun r hr => by
      cases r with
      | ok n w' =>
        cases n <;> simp only [HeldUpon] at hr <;> simp only [Oper.upon]
        case value u => obtain ⟨rfl, hs⟩ := hr; exact h _ _ hs hK
        case skip => obtain ⟨rfl, hs⟩ := hr; exact h _ _ hs hK
        case enter f args => exact hr.mono fun e w'' ⟨he, hs⟩ => by subst he; exact h _ _ hs hK
      | halt x w' => simp only [HeldUpon] at hr
    rcases hy with ⟨hwt, hne, hy⟩ | ⟨hwt, heq, hy⟩ | ⟨hwt, heq, hy⟩ | ⟨hwt, hne, rfl⟩
    · rw [if_pos hwt]
      obtain rfl := hi.1 hne
      exact .inl (fin _ (hy _ w hw))
    · rw [if_pos hwt]
      obtain ⟨rfl, rfl⟩ := hi.2.1 heq
      exact .inl (fin _ (hy w hw))
    · rw [if_pos hwt]
      obtain ⟨rfl, rfl⟩ := hi.2.2 heq
      exact .inl (fin _ (hy w hw))
    · rw [if_neg (by rw [hwt]; simp)]
      obtain rfl := hi.1 hne
      exact h _ _ hw hK
theorem wpAny_of_held3 {Q : Act → Prop} {Q' : Exit → Act → World → Prop} (hkm : k ≠ m) (hms : m < ops.size) (hed : ∀ o, ops[m]? = some o → o.after.any (fun e => Region.binds md e && e.on == k) = true) (hQ : ∀ a w, S 2 w → Q a → Q' .normal a w) : ∀ (fuel : Nat) (listed : Array Bool) (a : Act) (w : World), listed.size = ops.size → (listed.getD k true = false → listed.getD m true = false) → S (stOf k m listed) w →
    wpAnyT3 P md ops S k m Q fuel listed a → wpAny P md ops Q' fuel listed a w
  | 0, _, _, _, _, _, hw, h => ⟨h.1, hQ _ _ (by unfold stOf at hw; rw [if_pos h.2.1.2] at hw; exact hw) h.2.2⟩
  | fuel + 1, listed, _, _, hsz, hord, hw, h => ⟨fun h0 => hQ _ _ (by unfold stOf at hw; rw [if_pos (h.1 h0).1.2] at hw; exact hw) (h.1 h0).2, fun i hi => by
      obtain ⟨hun, oi, hoi, hall⟩ := mem_ready.1 hi
      have hkfirst : i = m → listed.getD k true = true := fun him => by
        subst him
        obtain ⟨e, he, hb⟩ := Array.any_eq_true'.1 (hed oi hoi)
        simp only [Bool.and_eq_true, beq_iff_eq] at hb
        have h1 := hall e he hb.1
        rw [hb.2] at h1
        rcases Nat.lt_or_ge k listed.size with h' | h'
        · simpa [h'] using h1
        · simp [Array.getElem?_eq_none h']
      refine wpOp_of_hOp3 (b := stOf k m listed) (b' := stOf k m (listed.setIfInBounds i true)) ⟨fun hne => ?_, fun heq => ?_, fun heq => ?_⟩ hw (fun a' w' hw' => wpAny_of_held3 hkm hms hed hQ fuel _ a' w' (by simpa using hsz) ?_ hw') (h.2 i hi) (Array.getElem?_eq_some_iff.1 hoi).1
      · unfold stOf; rw [getD_set_ne true hne.1, getD_set_ne true hne.2]
      · subst heq
        unfold stOf
        rw [getD_set_self, getD_set_ne true hkm, hord hun, hun]; simp
      · subst heq
        unfold stOf
        rw [getD_set_self, hun, hkfirst rfl]; simp
      · intro hk
        by_cases hik : i = k
        · subst hik; rw [getD_set_self] at hk; cases hk
        · rw [getD_set_ne true hik] at hk
          by_cases him : i = m
          · rw [hkfirst him] at hk; cases hk
          · rw [getD_set_ne true him]; exact hord hk⟩
theorem wp_region_held3 {id : Nat} {Q : Exit → Act → World → Prop} {a : Act} {w : World} {l : List Oper} (S : Nat → World → Prop) (k m : Nat) (hk : k < l.length) (hml : m < l.length) (hkm : k ≠ m) (hm : P.follows .mixedOrders = true) (hB : Region.lexB .any l.toArray = true)
    (hed : (l[m]?.map fun o => o.after.any (fun e => Region.binds .any e && e.on == k)) = some true)
    (hS : S 0 { w with drawn := w.drawn + 1 }) (h : wpHeld3 P l.toArray S k m (fun a' => ∀ w', S 2 w' → Q .normal a' w') 0 l a) : (Code.region id l.toArray true).wp P Q a w := by
  simp only [Region.lexB, Bool.and_eq_true] at hB
  have hfk : (Array.replicate l.toArray.size false).getD k true = false := by simp [hk]
  have hfm : (Array.replicate l.toArray.size false).getD m true = false := by simp [hml]
  refine wp_region_any hm (wpAny_of_held3 (S := S) (k := k) (m := m) (Q := fun a' => ∀ w', S 2 w' → Q .normal a' w') hkm (by simpa using hml) (fun o ho => ?_) (fun a' w' hw' h => h w' hw') _ _ _ _ (by simp) (fun _ => hfm) ?_ ?_)
  · have ho' : l[m]? = some o := by simpa using ho
    rw [ho'] at hed
    simpa using hed
  · unfold stOf
    rw [hfm, hfk]
    simpa using hS
  have := wpAnyT3_lex (P := P) (S := S) (k := k) (m := m) (Q := fun a' => ∀ w', S 2 w' → Q .normal a' w') (md := .any) hB.1 l 0 (Array.replicate l.toArray.size false) a (by simp) (by simp) (fun j hj => by omega) (by simpa using hB.2) h
  simpa using this
theorem held3_yes {Q : Act → Prop} {i : Nat} {o : Oper} {rest : List Oper} {a : Act} {v : Value} (hw : Region.wanted o (yielded ops a.tmps) = true) (hne : i ≠ k ∧ i ≠ m) (h : ∀ b w, S b w → HeldUpon P (S b) v ((execOp a.eval o).run P w)) (c : wpHeld3 P ops S k m Q (i + 1) rest (a.put o.dst v)) : wpHeld3 P ops S k m Q i (o :: rest) a :=
  ⟨v, .inl ⟨hw, hne, h⟩, c⟩
theorem held3_at {Q : Act → Prop} {i : Nat} {o : Oper} {rest : List Oper} {a : Act} {v : Value} (hw : Region.wanted o (yielded ops a.tmps) = true) (heq : i = k) (h : ∀ w, S 0 w → HeldUpon P (S 1) v ((execOp a.eval o).run P w)) (c : wpHeld3 P ops S k m Q (i + 1) rest (a.put o.dst v)) : wpHeld3 P ops S k m Q i (o :: rest) a :=
  ⟨v, .inr (.inl ⟨hw, heq, h⟩), c⟩
theorem held3_at2 {Q : Act → Prop} {i : Nat} {o : Oper} {rest : List Oper} {a : Act} {v : Value} (hw : Region.wanted o (yielded ops a.tmps) = true) (heq : i = m) (h : ∀ w, S 1 w → HeldUpon P (S 2) v ((execOp a.eval o).run P w)) (c : wpHeld3 P ops S k m Q (i + 1) rest (a.put o.dst v)) : wpHeld3 P ops S k m Q i (o :: rest) a :=
  ⟨v, .inr (.inr (.inl ⟨hw, heq, h⟩)), c⟩
theorem held3_no {Q : Act → Prop} {i : Nat} {o : Oper} {rest : List Oper} {a : Act} (hw : Region.wanted o (yielded ops a.tmps) = false) (hne : i ≠ k ∧ i ≠ m) (c : wpHeld3 P ops S k m Q (i + 1) rest (a.put o.dst undef)) : wpHeld3 P ops S k m Q i (o :: rest) a :=
  ⟨undef, .inr (.inr (.inr ⟨hw, hne, rfl⟩)), c⟩
theorem held3_nil {Q : Act → Prop} {i : Nat} {a : Act} (h : Q a) : wpHeld3 P ops S k m Q i [] a := h
end
end Go.Proofs.YtkmhmehofipehaaDoor
/- A head read: the program's Get. -/
namespace Go.Proofs.YtkmhmehofipehaaDoor
set_option linter.unusedVariables false
open Go.RowKit
/-- a head's values -/
structure HeadV where
  k : Int
  idx : Int
  len : Int
  stp : Int
  bnd : Int
  lst : Bool
  lnk : Int
  siz : Int
def HeadV.cells (h : HeadV) : Array Value := #[.int .i64 h.k, .int .i64 h.idx, .int .i64 h.len, .int .i64 h.stp, .int .i64 h.bnd, .bool h.lst, .int .u32 h.lnk, .int .i64 h.siz]
def HeadV.zero : HeadV := ⟨0, 0, 0, 0, 0, false, 0, 0⟩
/-- the head that bytes of enough length say -/
def saidH (l : List UInt8) : HeadV := ⟨(fldH l 2 1 : Nat), (fldH l 4 4 : Nat), (fldH l 8 4 : Nat), (fldH l 12 4 : Nat), (fldH l 16 4 : Nat), fldH l 3 1 == 1, (fldH l 20 4 : Nat), (fldH l 24 4 : Nat)⟩
def getH (l : List UInt8) : Int × HeadV :=
  if startsH l = false then (30, HeadV.zero) else if l.length < 32 then (10, HeadV.zero) else if sumI (l.take 28) ≠ (fldH l 28 4 : Int) then (33, HeadV.zero)
  else if okH l = false then (32, HeadV.zero) else (0, saidH l)
def GetHPost (w : World) (r : Int × HeadV) (e : Ending) (w' : World) : Prop :=
  e = .returned (.tuple #[.agg r.2.cells, .int .i64 r.1]) ∧ Below w.heap.size w w'
set_option maxHeartbeats 2000000 in
theorem hget_sync (t : Nat) (A : Option Addr) (c : Nat) (l : List UInt8) (w : World) (hl : SeesB w A l) (hs : startsH l = false) :
    Calls Tryd.prog 67 #[.pointer (some ⟨t, 0, none⟩), .slice A l.length c] w (GetHPost w (30, HeadV.zero)) := by
  have hb : Below w.heap.size w (w.alloc (.cells #[.int .i64 0, .int .i64 0, .int .i64 0, .int .i64 0, .int .i64 0, .bool false, .int .u32 0, .int .i64 0] 52)) := (Below.refl _ w).alloc (Nat.le_refl _) _
  have hrow := heap_alloc_new w (.cells #[.int .i64 0, .int .i64 0, .int .i64 0, .int .i64 0, .int .i64 0, .bool false, .int .u32 0, .int .i64 0] 52)
  go_enter Tryd.func67, Tryd.ntmps67
  go_wp2_with fail
  generalize w.alloc (.cells #[.int .i64 0, .int .i64 0, .int .i64 0, .int .i64 0, .int .i64 0, .bool false, .int .u32 0, .int .i64 0] 52) = w0 at *
  have hlt0 : w.heap.size < w0.heap.size := (Array.getElem?_eq_some_iff.1 hrow).1
  refine (hstarts_any A c l w0 (hl.below hb)).mono ?_
  rintro e w1 ⟨rfl, rfl⟩
  rw [hs]
  go_wp2_with first | (refine wpList_store_row rfl 52 (.tmp 4) (.tmp 16) rfl rfl w.heap.size rfl #[.int .i64 0, .int .i64 0, .int .i64 0, .int .i64 0, .int .i64 0, .bool false, .int .u32 0, .int .i64 0] rfl 52 #[.int .i64 0, .int .i64 0, .int .i64 0, .int .i64 0, .int .i64 0, .bool false, .int .u32 0, .int .i64 0] hrow (by kernel_rfl) rfl (by simp [Value.oneCell']) ?_)
  exact bodyPost_ret (v := .tuple #[.agg #[.int .i64 0, .int .i64 0, .int .i64 0, .int .i64 0, .int .i64 0, .bool false, .int .u32 0, .int .i64 0], .int .i64 30]) (results_row_tmp (fn := Tryd.f67) (p := 4) (u := 5) (ty := 52) rfl _ _ w.heap.size _ _ _ _ rfl (setRow_heap _ _ _ _ _ _ hrow) Tryd.underlying52 rfl (by kernel_rfl)) rfl ⟨rfl, below_setRow hb (Nat.le_refl _) _⟩
set_option maxHeartbeats 2000000 in
theorem hget_end (t : Nat) (A : Option Addr) (c : Nat) (l : List UInt8) (w : World) (hl : SeesB w A l) (hs : startsH l = true) (hn : l.length < 32) :
    Calls Tryd.prog 67 #[.pointer (some ⟨t, 0, none⟩), .slice A l.length c] w (GetHPost w (10, HeadV.zero)) := by
  have d1 : decide ((l.length : Int) < 32) = true := by simp; omega
  have hb : Below w.heap.size w (w.alloc (.cells #[.int .i64 0, .int .i64 0, .int .i64 0, .int .i64 0, .int .i64 0, .bool false, .int .u32 0, .int .i64 0] 52)) := (Below.refl _ w).alloc (Nat.le_refl _) _
  have hrow := heap_alloc_new w (.cells #[.int .i64 0, .int .i64 0, .int .i64 0, .int .i64 0, .int .i64 0, .bool false, .int .u32 0, .int .i64 0] 52)
  go_enter Tryd.func67, Tryd.ntmps67
  go_wp2_with fail
  generalize w.alloc (.cells #[.int .i64 0, .int .i64 0, .int .i64 0, .int .i64 0, .int .i64 0, .bool false, .int .u32 0, .int .i64 0] 52) = w0 at *
  have hlt0 : w.heap.size < w0.heap.size := (Array.getElem?_eq_some_iff.1 hrow).1
  refine (hstarts_any A c l w0 (hl.below hb)).mono ?_
  rintro e w1 ⟨rfl, rfl⟩
  rw [hs]
  go_wp2_with first | (refine wpList_store_row rfl 52 (.tmp 4) (.tmp 21) rfl rfl w.heap.size rfl #[.int .i64 0, .int .i64 0, .int .i64 0, .int .i64 0, .int .i64 0, .bool false, .int .u32 0, .int .i64 0] rfl 52 #[.int .i64 0, .int .i64 0, .int .i64 0, .int .i64 0, .int .i64 0, .bool false, .int .u32 0, .int .i64 0] hrow (by kernel_rfl) rfl (by simp [Value.oneCell']) ?_)
  exact bodyPost_ret (v := .tuple #[.agg #[.int .i64 0, .int .i64 0, .int .i64 0, .int .i64 0, .int .i64 0, .bool false, .int .u32 0, .int .i64 0], .int .i64 10]) (results_row_tmp (fn := Tryd.f67) (p := 4) (u := 5) (ty := 52) rfl _ _ w.heap.size _ _ _ _ rfl (setRow_heap _ _ _ _ _ _ hrow) Tryd.underlying52 rfl (by kernel_rfl)) rfl ⟨rfl, below_setRow hb (Nat.le_refl _) _⟩
set_option maxHeartbeats 4000000 in
theorem hget_long (t : Nat) (A : Option Addr) (c : Nat) (l : List UInt8) (w : World) (ht : Tab w t) (hl : SeesB w A l) (hc : l.length ≤ c) (hcm : c ≤ maxLen) (hlen : l.length ≤ 140737488355328) (hs : startsH l = true) (hn : 32 ≤ l.length) :
    Calls Tryd.prog 67 #[.pointer (some ⟨t, 0, none⟩), .slice A l.length c] w (GetHPost w (getH l)) := by
  have d1 : decide ((l.length : Int) < 32) = false := by simp; omega
  obtain ⟨R, hR⟩ : ∃ R, R = getH l := ⟨_, rfl⟩
  rw [← hR]
  have HR := hid hR
  clear hR
  obtain ⟨a, rfl, _⟩ := hl.at (show 0 < l.length by omega)
  have g1 : (28 : Int) ≤ c := by omega
  have g2 : ¬ c = 28 := by omega
  have g3 : (28 : Int) ≤ l.length := by omega
  have g4 : (l.length : Int) ≤ c := by omega
  have h28 : (l.take 28).length = 28 := by rw [List.length_take]; omega
  have hsr := sumI_range (l.take 28)
  obtain ⟨S, hS⟩ := Int.eq_ofNat_of_zero_le hsr.1
  have hsum := fun W (ht : Tab W t) (hl : SeesB W (some a) (l.take 28)) => sum_any t (some a) c (l.take 28) W ht hl (by omega)
  rw [h28, hS] at hsum
  rw [hS] at hsr
  have hS4 : S < 4294967296 := by omega
  have HSUM := hid hsum
  have HS := hid hS
  have hdl : (l.drop 28).length = l.length - 28 := by simp
  have htk := fun W (h : SeesB W (some (a.add 28)) (l.drop 28)) => take_any (some (a.add 28)) (c - 28) (l.drop 28) W h (by omega)
  rw [hdl] at htk
  have HTK := hid htk
  have hu := fun g W (hT : Tk W g 0 0 (l.drop 28)) => takerU_any g 0 0 4 (l.drop 28) W hT (by omega)
  rw [show takeU (0, 0) (l.drop 28) 4 = ((0, 4), ((l.drop 28).drop 0).take 4) from takeU_at 0 4 (l.drop 28) (by omega) (by omega)] at hu
  unfold UPost at hu
  rw [show valLE (((l.drop 28).drop 0).take 4) = fldH l 28 4 from rfl] at hu
  have v5 := fldH_lt l 28 4
  obtain ⟨su, hsu⟩ : ∃ y, y = fldH l 28 4 := ⟨_, rfl⟩
  rw [← hsu] at v5 hu
  have HSU := hid hsu
  have HU := hid hu
  clear hu hsu hsum hS hsr h28 hdl htk
  have hb : Below w.heap.size w (w.alloc (.cells #[.int .i64 0, .int .i64 0, .int .i64 0, .int .i64 0, .int .i64 0, .bool false, .int .u32 0, .int .i64 0] 52)) := (Below.refl _ w).alloc (Nat.le_refl _) _
  have hrow := heap_alloc_new w (.cells #[.int .i64 0, .int .i64 0, .int .i64 0, .int .i64 0, .int .i64 0, .bool false, .int .u32 0, .int .i64 0] 52)
  go_enter Tryd.func67, Tryd.ntmps67
  go_wp2_with fail
  generalize w.alloc (.cells #[.int .i64 0, .int .i64 0, .int .i64 0, .int .i64 0, .int .i64 0, .bool false, .int .u32 0, .int .i64 0] 52) = w0 at *
  have hlt0 : w.heap.size < w0.heap.size := (Array.getElem?_eq_some_iff.1 hrow).1
  refine (hstarts_any (some a) c l w0 (hl.below hb)).mono ?_
  rintro e w1 ⟨rfl, rfl⟩
  rw [hs]
  have hlw := hl.below hb
  have htw := ht.keep hb ht.lt
  have hl28 : SeesB w0 (some a) (l.take 28) := by unfold SeesB; rw [List.map_take]; exact Sees.take hlw 28
  have hdr : SeesB w0 (some (a.add 28)) (l.drop 28) := by have := hlw.cutTo 28 (l.length - 28); rwa [List.take_of_length_le (by simp)] at this
  go_wp2_with fail
  have htd : Tab w0.drew t := htw
  have hld : SeesB w0.drew (some a) (l.take 28) := hl28
  have hdd : SeesB w0.drew (some (a.add 28)) (l.drop 28) := hdr
  go_region_held3 (fun w' => True) (trivial) (first | (go_at_call 48; refine (HSUM.out _ ?_ ?_).mono ?_; exact htd; exact hld; rintro e wa ⟨rfl, rfl⟩) | (go_at_call 68; refine (HTK.out _ ?_).mono ?_; exact hdd; rintro e w2 ⟨g, rfl, hg, hT, hb2⟩) | (go_at_call 69; refine (HU.out g _ ?_).mono ?_; exact hT; rintro e w3 ⟨rfl, hT3, hB3⟩))
  have hb2' := undrew hb2
  have hbw2 := hb.trans (hb2'.mono hb.size)
  have hrow2 := (hb2'.block w.heap.size hlt0).trans hrow
  have hgw : w.heap.size < g := Nat.lt_of_lt_of_le hlt0 hg
  have hlt2 := Nat.lt_of_lt_of_le hlt0 hb2'.size
  have hbw3 := But.below hbw2 hB3 (fun b h => by have h2 : b = g := h; omega) hbw2.size
  have hrow3 := (hB3.block w.heap.size hlt2 (fun h => by have h2 : w.heap.size = g := h; omega)).trans hrow2
  have hlt3 := Nat.lt_of_lt_of_le hlt2 hB3.size
  have hl3 := hl.below hbw3
  have HST := hid hs
  clear htd hld hdd hb2 hb2' hbw2 hrow2 hlt2 hT hT3 hB3 hg hgw hdr hl28 htw hlw hrow hb hlt0 HSUM HTK HU hs ht hl
  by_cases heq : S = su
  · have dd : ((S : Int) != (su : Int)) = false := by rw [heq]; simp
    have dd2 : (IntKind.u64.wrap (S : Int) != (su : Int)) = false := by
      rw [show IntKind.u64.wrap (S : Int) = (S : Int) by rw [IntKind.wrap_u64]; omega]; exact dd
    have HEQ := hid heq
    have HTAKE := hid (htake_any (some a) c l w3 hl3 hn hlen)
    clear heq
    go_wp2_with fail
    refine HTAKE.out.mono ?_
    rintro e w4 ⟨rfl, hb4⟩
    have hbw4 := hbw3.trans (hb4.mono hbw3.size)
    have hrow4 := (hb4.block w.heap.size hlt3).trans hrow3
    have hlt4 := Nat.lt_of_lt_of_le hlt3 hb4.size
    have hb5 : Below w4.heap.size w4 (w4.alloc (.cells (saidH l).cells 52)) := (Below.refl _ _).alloc (Nat.le_refl _) _
    have hr5 := heap_alloc_new w4 (.cells (saidH l).cells 52)
    have hbw5 := hbw4.trans (hb5.mono hbw4.size)
    have hrow5 := (hb5.block w.heap.size hlt4).trans hrow4
    have hmid : Hid (∀ b, okH l = b → R = if b = false then (32, HeadV.zero) else (0, saidH l)) := hid (fun b hb => by
      rw [HR.out]
      unfold getH
      rw [if_neg (by rw [HST.out]; simp), if_neg (by omega), if_neg (by rw [HS.out, HEQ.out, HSU.out]; simp), hb])
    unfold saidH at hmid
    unfold saidH HeadV.cells at hb5 hr5 hbw5 hrow5
    simp only at hb5 hr5 hbw5 hrow5
    generalize fldH l 2 1 = f0 at *
    generalize fldH l 4 4 = f1 at *
    generalize fldH l 8 4 = f2 at *
    generalize fldH l 12 4 = f3 at *
    generalize fldH l 16 4 = f4 at *
    generalize (fldH l 3 1 == 1) = f5 at *
    generalize fldH l 20 4 = f6 at *
    generalize fldH l 24 4 = f7 at *
    clear hb4 hb5 hbw3 hbw4 hrow3 hrow4 hl3 HTAKE
    cases hok : okH l with
    | false =>
      obtain rfl : R = (32, HeadV.zero) := by rw [hmid.out false hok, if_pos rfl]
      clear hok hmid HR
      go_wp2_with first | (refine wpList_store_row rfl 52 (.tmp 4) (.tmp 41) rfl rfl w.heap.size rfl #[.int .i64 0, .int .i64 0, .int .i64 0, .int .i64 0, .int .i64 0, .bool false, .int .u32 0, .int .i64 0] rfl 52 #[.int .i64 0, .int .i64 0, .int .i64 0, .int .i64 0, .int .i64 0, .bool false, .int .u32 0, .int .i64 0] hrow5 (by kernel_rfl) rfl (by simp [Value.oneCell']) ?_)
      exact bodyPost_ret (v := .tuple #[.agg #[.int .i64 0, .int .i64 0, .int .i64 0, .int .i64 0, .int .i64 0, .bool false, .int .u32 0, .int .i64 0], .int .i64 32]) (results_row_tmp (fn := Tryd.f67) (p := 4) (u := 5) (ty := 52) rfl _ _ w.heap.size _ _ _ _ rfl (setRow_heap _ _ _ _ _ _ hrow5) Tryd.underlying52 rfl (by kernel_rfl)) rfl ⟨rfl, below_setRow hbw5 (Nat.le_refl _) _⟩
    | true =>
      obtain rfl := by have := hmid.out true hok; rwa [if_neg (by simp)] at this
      clear hok hmid HR
      go_wp2_with first | (refine wpList_load_row rfl 52 _ rfl w4.heap.size rfl 52 #[.int .i64 (f0 : Nat), .int .i64 (f1 : Nat), .int .i64 (f2 : Nat), .int .i64 (f3 : Nat), .int .i64 (f4 : Nat), .bool f5, .int .u32 (f6 : Nat), .int .i64 (f7 : Nat)] (0, 0) _ hr5 Tryd.underlying52 rfl (by kernel_rfl) ?_) | (refine wpList_store_row rfl 52 (.tmp 4) (.tmp 42) rfl rfl w.heap.size rfl #[.int .i64 (f0 : Nat), .int .i64 (f1 : Nat), .int .i64 (f2 : Nat), .int .i64 (f3 : Nat), .int .i64 (f4 : Nat), .bool f5, .int .u32 (f6 : Nat), .int .i64 (f7 : Nat)] rfl 52 #[.int .i64 0, .int .i64 0, .int .i64 0, .int .i64 0, .int .i64 0, .bool false, .int .u32 0, .int .i64 0] hrow5 (by kernel_rfl) rfl (by simp [Value.oneCell']) ?_)
      exact bodyPost_ret (v := .tuple #[.agg #[.int .i64 (f0 : Nat), .int .i64 (f1 : Nat), .int .i64 (f2 : Nat), .int .i64 (f3 : Nat), .int .i64 (f4 : Nat), .bool f5, .int .u32 (f6 : Nat), .int .i64 (f7 : Nat)], .int .i64 0]) (results_row_tmp (fn := Tryd.f67) (p := 4) (u := 5) (ty := 52) rfl _ _ w.heap.size _ _ _ _ rfl (setRow_heap _ _ _ _ _ _ hrow5) Tryd.underlying52 rfl (by kernel_rfl)) rfl ⟨rfl, below_setRow hbw5 (Nat.le_refl _) _⟩
  · have dd : ((S : Int) != (su : Int)) = true := by simp; omega
    have dd2 : (IntKind.u64.wrap (S : Int) != (su : Int)) = true := by
      rw [show IntKind.u64.wrap (S : Int) = (S : Int) by rw [IntKind.wrap_u64]; omega]; exact dd
    obtain rfl : R = (33, HeadV.zero) := by
      rw [HR.out]; unfold getH
      rw [if_neg (by rw [HST.out]; simp), if_neg (by omega), if_pos (by rw [HS.out, ← HSU.out]; omega)]
    clear HR heq
    go_wp2_with first | (refine wpList_store_row rfl 52 (.tmp 4) (.tmp 33) rfl rfl w.heap.size rfl #[.int .i64 0, .int .i64 0, .int .i64 0, .int .i64 0, .int .i64 0, .bool false, .int .u32 0, .int .i64 0] rfl 52 #[.int .i64 0, .int .i64 0, .int .i64 0, .int .i64 0, .int .i64 0, .bool false, .int .u32 0, .int .i64 0] hrow3 (by kernel_rfl) rfl (by simp [Value.oneCell']) ?_)
    exact bodyPost_ret (v := .tuple #[.agg #[.int .i64 0, .int .i64 0, .int .i64 0, .int .i64 0, .int .i64 0, .bool false, .int .u32 0, .int .i64 0], .int .i64 33]) (results_row_tmp (fn := Tryd.f67) (p := 4) (u := 5) (ty := 52) rfl _ _ w.heap.size _ _ _ _ rfl (setRow_heap _ _ _ _ _ _ hrow3) Tryd.underlying52 rfl (by kernel_rfl)) rfl ⟨rfl, below_setRow hbw3 (Nat.le_refl _) _⟩
end Go.Proofs.YtkmhmehofipehaaDoor
