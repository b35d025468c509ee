/- What is read of bytes as tags, plainly: and of what was laid. -/
import Derived.Test.YtlcbfikmljmlpaaDoorTagsGetsM10
import Derived.Test.YtlcbfikmljmlpaaDoorTagsGetsM12
import Derived.Test.YtlcbfikmljmlpaaDoorTagsGetsM14
import Derived.Test.YtlcbfikmljmlpaaDoorTagsGetsM5
import Derived.Test.YtlcbfikmljmlpaaDoorTagsGetsM3
import Derived.Test.YtlcbfikmljmlpaaDoorTagsGetsM13
namespace Go.Proofs.YtlcbfikmljmlpaaDoor
set_option linter.unusedVariables false
open Go.RowKit
def startsG (l : List UInt8) : Bool := (l[0]?.getD 84 == 84) && (l[1]?.getD 71 == 71)
/-- a key and a value, taken one behind the other -/
def stepG (b : List UInt8) (s : Int × Nat) : (Int × Nat) × TagV := ((textR (textR s b 1).1 b 2).1, ⟨⟨(textR s b 1).2.toArray⟩, ⟨(textR (textR s b 1).1 b 2).2.toArray⟩⟩)
def loopG (b : List UInt8) : Nat → Int × Nat → List TagV → (Int × Nat) × List TagV
  | 0, s, acc => (s, acc)
  | n + 1, s, acc => if (stepG b s).1.1 ≠ 0 then ((stepG b s).1, acc) else loopG b n (stepG b s).1 (acc ++ [(stepG b s).2])
def endG (b : List UInt8) (p : Nat) (q : Int × Nat) (x : List UInt8) (l : List TagV) : Int × Nat × List TagV :=
  if q.1 ≠ 0 then (q.1, 0, []) else if valLE x ≠ (sumI (b.take p)).toNat then (33, 0, []) else if (checkT l).2 ≠ 0 then ((checkT l).2, 0, []) else (0, q.2, l)
def finG (b : List UInt8) (r : (Int × Nat) × List TagV) : Int × Nat × List TagV := endG b r.1.2 (takeU r.1 b 4).1 (takeU r.1 b 4).2 r.2
def countG (b : List UInt8) : Nat := valLE ((b.drop 2).take 1)
def getG (b : List UInt8) : Int × Nat × List TagV :=
  if startsG b = false then (31, 0, []) else if b.length < 3 then (10, 0, []) else finG b (loopG b (countG b) (0, 3) [])
theorem takeU_here (P X R : List UInt8) (p n : Nat) (hp : P.length = p) (hX : X.length = n) (hn : 1 ≤ n ∧ n ≤ 8) : takeU (0, p) (P ++ (X ++ R)) (n : Int) = ((0, p + n), X) := by
  unfold takeU tnext
  rw [if_neg (by simp), if_neg (by omega), Int.toNat_natCast, if_neg (by simp only [List.length_append]; omega), fld_at P X R p n hp hX]
theorem textR_here (P T R : List UInt8) (p n : Nat) (hp : P.length = p) (hn : 1 ≤ n ∧ n ≤ 8) (ht : T.length < 256 ^ n) : textR (0, p) (P ++ (bytesLE T.length n ++ T ++ R)) (n : Int) = ((0, p + n + T.length), T) := by
  have hu := takeU_here P (bytesLE T.length n) (T ++ R) p n hp (bytesLE_length _ _) hn
  rw [List.append_assoc]
  unfold textR
  rw [hu]
  simp only
  rw [if_neg (by simp), if_neg (by simp), valLE_of _ _ ht, if_neg (by simp only [List.length_append, bytesLE_length]; omega)]
  have e : P ++ (bytesLE T.length n ++ (T ++ R)) = (P ++ bytesLE T.length n) ++ (T ++ R) := by simp
  rw [e, fld_at (P ++ bytesLE T.length n) T R (p + n) T.length (by rw [List.length_append, bytesLE_length]; omega) rfl]
theorem stepG_here (P R : List UInt8) (x : TagV) (p : Nat) (hp : P.length = p) (hk : x.k.size ≤ 32) (hv : x.v.size ≤ 1024) : stepG (P ++ (oneB x ++ R)) (0, p) = ((0, p + (oneB x).length), x) := by
  have hkl := size_list x.k
  have hvl := size_list x.v
  have h1 := textR_here P x.k.data.toList (bytesLE x.v.data.toList.length 2 ++ x.v.data.toList ++ R) p 1 hp (by omega) (by omega)
  have h2 := textR_here (P ++ (bytesLE x.k.data.toList.length 1 ++ x.k.data.toList)) x.v.data.toList R (p + 1 + x.k.data.toList.length) 2 (by simp only [List.length_append, bytesLE_length]; omega) (by omega) (by omega)
  have e : P ++ (oneB x ++ R) = P ++ (bytesLE x.k.data.toList.length 1 ++ x.k.data.toList ++ (bytesLE x.v.data.toList.length 2 ++ x.v.data.toList ++ R)) := by unfold oneB; simp
  have e2 : P ++ (oneB x ++ R) = (P ++ (bytesLE x.k.data.toList.length 1 ++ x.k.data.toList)) ++ (bytesLE x.v.data.toList.length 2 ++ x.v.data.toList ++ R) := by unfold oneB; simp
  rw [← e] at h1
  rw [← e2] at h2
  have h1' : textR (0, p) (P ++ (oneB x ++ R)) 1 = ((0, p + 1 + x.k.data.toList.length), x.k.data.toList) := h1
  have h2' : textR (0, p + 1 + x.k.data.toList.length) (P ++ (oneB x ++ R)) 2 = ((0, p + 1 + x.k.data.toList.length + 2 + x.v.data.toList.length), x.v.data.toList) := h2
  unfold stepG
  rw [h1']
  simp only
  rw [h2', oneB_len, hkl, hvl]
  simp only [Prod.mk.injEq, true_and, and_true]
  omega
theorem loopG_here (R : List UInt8) : ∀ (l : List TagV) (P : List UInt8) (p : Nat) (acc : List TagV), P.length = p → (∀ i, ∀ h : i < l.length, l[i].k.size ≤ 32 ∧ l[i].v.size ≤ 1024) → loopG (P ++ (itemsB l ++ R)) l.length (0, p) acc = ((0, p + (itemsB l).length), acc ++ l)
  | [], P, p, acc, hp, hs => by simp [loopG, itemsB]
  | x :: l, P, p, acc, hp, hs => by
    have h0 := hs 0 (by simp)
    have e : P ++ (itemsB (x :: l) ++ R) = P ++ (oneB x ++ (itemsB l ++ R)) := by simp [itemsB]
    have e2 : P ++ (oneB x ++ (itemsB l ++ R)) = (P ++ oneB x) ++ (itemsB l ++ R) := by simp
    have h1 := stepG_here P (itemsB l ++ R) x p hp h0.1 h0.2
    have h2 := loopG_here R l (P ++ oneB x) (p + (oneB x).length) (acc ++ [x]) (by rw [List.length_append]; omega) (fun i hi => by
      have := hs (i + 1) (by simp; omega)
      simpa using this)
    rw [List.length_cons, loopG, e, h1, if_neg (by simp)]
    simp only
    rw [e2, h2]
    simp [itemsB]
    omega
/-- what was laid is read as it was, whatever stands behind it -/
theorem getG_put (l : List TagV) (M : List UInt8) (hc : (checkT l).2 = 0) (hS : Short l) : getG (sealed (tagsB l) ++ M) = (0, (sealed (tagsB l)).length, l) := by
  have h64 := hS.1
  have e1 : sealed (tagsB l) ++ M = headB l ++ (itemsB l ++ (bytesLE (sumI (tagsB l)).toNat 4 ++ M)) := by unfold sealed tagsB; simp
  have e2 : sealed (tagsB l) ++ M = tagsB l ++ (bytesLE (sumI (tagsB l)).toNat 4 ++ M) := by unfold sealed; simp
  have hst : startsG (sealed (tagsB l) ++ M) = true := by rw [e1]; simp [startsG, headB]
  have hcn : countG (sealed (tagsB l) ++ M) = l.length := by
    rw [e1]
    unfold countG headB
    show valLE [UInt8.ofNat l.length] = l.length
    simp [valLE]
    omega
  have hlp := loopG_here (bytesLE (sumI (tagsB l)).toNat 4 ++ M) l (headB l) 3 [] rfl hS.2
  rw [← e1, List.nil_append] at hlp
  have hT : 3 + (itemsB l).length = (tagsB l).length := by unfold tagsB headB; simp only [List.length_append, List.length_cons, List.length_nil]
  rw [hT] at hlp
  have hu := takeU_here (tagsB l) (bytesLE (sumI (tagsB l)).toNat 4) M (tagsB l).length 4 rfl (bytesLE_length _ _) (by omega)
  rw [← e2] at hu
  have hu' : takeU (0, (tagsB l).length) (sealed (tagsB l) ++ M) 4 = ((0, (tagsB l).length + 4), bytesLE (sumI (tagsB l)).toNat 4) := hu
  have htk : (sealed (tagsB l) ++ M).take (tagsB l).length = tagsB l := by rw [e2]; exact List.take_left
  have hsr := sumI_range (tagsB l)
  have hsl : (sealed (tagsB l)).length = (tagsB l).length + 4 := by unfold sealed; rw [List.length_append, bytesLE_length]
  unfold getG
  rw [if_neg (by rw [hst]; simp), if_neg (by rw [List.length_append, hsl]; omega), hcn, hlp]
  unfold finG
  simp only
  rw [hu']
  unfold endG
  simp only
  rw [if_neg (by simp), htk, valLE_of _ _ (by omega), if_neg (by simp), if_neg (by rw [hc]; simp), hsl]
end Go.Proofs.YtlcbfikmljmlpaaDoor
/- Tags in a row of the call's own: its cells. -/
namespace Go.Proofs.YtlcbfikmljmlpaaDoor
set_option linter.unusedVariables false
open Go.RowKit
theorem elT : Elem Tryd.prog 22 30 2 32 := Elem.mk' Tryd.underlying22 (z := .agg #[.string ByteArray.empty, .string ByteArray.empty]) (by kernel_rfl) rfl (by omega)
/-- the cells of tags -/
def flat : List TagV → List Value
  | [] => []
  | t :: l => .string t.k :: .string t.v :: flat l
theorem flat_len : ∀ l : List TagV, (flat l).length = l.length * 2
  | [] => rfl
  | t :: l => by simp only [flat, List.length_cons, flat_len l]; omega
theorem flat_app : ∀ l m : List TagV, flat (l ++ m) = flat l ++ flat m
  | [], _ => rfl
  | t :: l, m => by simp only [flat, List.cons_append, flat_app l m]
theorem flat_one : ∀ (l : List TagV), ∀ u ∈ flat l, u.oneCell' = true
  | [], u, h => by simp [flat] at h
  | t :: l, u, h => by
    simp only [flat, List.mem_cons] at h
    rcases h with rfl | rfl | h
    · rfl
    · rfl
    · exact flat_one l u h
theorem flat_at : ∀ (l : List TagV) (i : Nat) (h : i < l.length), (flat l)[i * 2]? = some (.string l[i].k) ∧ (flat l)[i * 2 + 1]? = some (.string l[i].v)
  | [], i, h => by simp at h
  | t :: l, 0, _ => ⟨rfl, rfl⟩
  | t :: l, i + 1, h => by
    rw [show (i + 1) * 2 = (i * 2) + 1 + 1 by omega]
    exact flat_at l i (by simpa using h)
theorem SeesT.of_flat {w : World} {A : Option Addr} {l : List TagV} (h : Sees w A (flat l)) : SeesT w A l := by
  intro i hi
  obtain ⟨e0, e1⟩ := flat_at l i hi
  obtain ⟨a, ha, h0⟩ := h _ _ e0
  obtain ⟨b, hb, h1⟩ := h _ _ e1
  rw [ha] at hb
  injection hb with hb
  subst hb
  exact ⟨a, ha, h0, by rw [addr_add]; exact h1⟩
theorem SeesT.to_flat {w : World} {A : Option Addr} {l : List TagV} (h : SeesT w A l) : Sees w A (flat l) := by
  intro i u hu
  have hl : i < l.length * 2 := by
    have := (List.getElem?_eq_some_iff.1 hu).1
    rwa [flat_len] at this
  obtain ⟨a, ha, h0, h1⟩ := h (i / 2) (by omega)
  obtain ⟨e0, e1⟩ := flat_at l (i / 2) (by omega)
  refine ⟨a, ha, ?_⟩
  rcases Nat.mod_two_eq_zero_or_one i with hm | hm
  · rw [show i / 2 * 2 = i by omega] at e0 h0
    rw [e0] at hu
    injection hu with hu
    rw [← hu]
    exact h0
  · rw [show i / 2 * 2 + 1 = i by omega] at e1
    rw [addr_add, show i / 2 * 2 + 1 = i by omega] at h1
    rw [e1] at hu
    injection hu with hu
    rw [← hu]
    exact h1
/-- a slice of the call's own, from a block on -/
def NewT (B : Nat) (w' : World) (l : List TagV) (A : Option Addr) (c : Nat) : Prop :=
  w'.ownsRow B 30 2 (.slice A l.length c) l.length (flat l)
theorem NewT.sees {B : Nat} {w' : World} {l : List TagV} {A : Option Addr} {c : Nat} (h : NewT B w' l A c) : SeesT w' A l := SeesT.of_flat (own_sees h)
theorem NewT.below {B : Nat} {w w' : World} {l : List TagV} {A : Option Addr} {c : Nat} (h : NewT B w l A c) (hb : Below w.heap.size w w') : NewT B w' l A c :=
  World.ownsRow.kept h (row := none) ⟨hb.os, hb.tape, hb.output, hb.size, fun k hk _ => hb.block k hk⟩ (by cases (Value.slice A l.length c).ownBlock <;> simp)
theorem NewT.cap {B : Nat} {w : World} {l : List TagV} {A : Option Addr} {c : Nat} (h : NewT B w l A c) : l.length ≤ c := by
  rcases h.2 with ⟨h', h0⟩ | ⟨g', cap', cur, h', hb, hg, hnc, _⟩
  · rw [h0]; exact Nat.zero_le _
  · injection h' with _ _ h3
    omega
theorem NewT.mono {B B' : Nat} {w : World} {l : List TagV} {A : Option Addr} {c : Nat} (h : NewT B w l A c) (hb : B' ≤ B) : NewT B' w l A c := by
  refine ⟨h.1, ?_⟩
  rcases h.2 with h' | ⟨g', cap', cur, h1, h2, h3⟩
  · exact .inl h'
  · exact .inr ⟨g', cap', cur, h1, by omega, h3⟩
theorem nil_sees (w : World) : SeesT w none [] := fun i hi => by simp at hi
end Go.Proofs.YtlcbfikmljmlpaaDoor
/- A taker's bytes. -/
namespace Go.Proofs.YtlcbfikmljmlpaaDoor
set_option linter.unusedVariables false
open Go.RowKit
def takeRaw (s : Int × Nat) (l : List UInt8) (n : Int) : (Int × Nat) × List UInt8 :=
  if s.1 ≠ 0 then (s, []) else if n < 0 then ((1, s.2), []) else tnext s.2 l n.toNat
def RawPost (w : World) (g : Nat) (l : List UInt8) (r : (Int × Nat) × List UInt8) (e : Ending) (w' : World) : Prop :=
  ∃ (A : Option Addr) (c : Nat), e = .returned (.slice A r.2.length c) ∧ SeesB w' A r.2 ∧ (∀ a, A = some a → w.heap.size ≤ a.block ∧ a.block < w'.heap.size) ∧ r.2.length ≤ c ∧ c ≤ maxLen ∧ Tk w' g r.1.1 r.1.2 l ∧ But (Only g) w w'
theorem tnext_len (p : Nat) (l : List UInt8) (n : Nat) : (tnext p l n).2.length ≤ l.length := by
  unfold tnext; split <;> simp <;> omega
set_option maxHeartbeats 1000000 in
theorem traw_any (g : Nat) (err : Int) (p : Nat) (n : Int) (l : List UInt8) (w : World) (h : Tk w g err p l) (hlen : l.length ≤ 140737488355328) (hn : n ≤ 9223372036854775807) :
    Calls Tryd.prog 48 #[.pointer (some ⟨g, 0, none⟩), .int .i64 n] w (RawPost w g l (takeRaw (err, p) l n)) := by
  obtain ⟨A, c, hc0, hc1, hc2, hs, h1, h2, h3, hf⟩ := h.cells
  have hf0 := hf 0
  by_cases he : err ≠ 0
  · have hd : (err == 0) = false := by simpa using he
    have hfin : RawPost w g l (takeRaw (err, p) l n) (.returned (.slice none 0 0)) w := by
      unfold takeRaw; rw [if_pos he]
      exact ⟨none, 0, rfl, Sees.nil _ _, fun a ha => by (cases ha), Nat.le_refl _, Nat.zero_le _, h, But.refl _ _⟩
    go_enter Tryd.func48, Tryd.ntmps48
    go_wp2_with fail
    refine (tready_is g err false _ hc0 hd).mono ?_
    rintro e w' ⟨rfl, rfl⟩
    go_wp2_with fail
    go_ret
    exact hfin
  have he0 : err = 0 := by omega
  subst he0
  by_cases hneg : n < 0
  · have d1 : decide (n < 0) = true := by simpa using hneg
    have hT := h.setErr 1
    have hfin : RawPost w g l (takeRaw (0, p) l n) (.returned (.slice none 0 0)) (w.setCell ⟨g, 0, none⟩ (.int .i64 1)) := by
      unfold takeRaw; rw [if_neg (by simp), if_pos hneg]
      exact ⟨none, 0, rfl, Sees.nil _ _, fun a ha => by (cases ha), Nat.le_refl _, Nat.zero_le _, hT.1, hT.2⟩
    go_enter Tryd.func48, Tryd.ntmps48
    go_wp2_with fail
    refine (tready_is g 0 true _ hc0 rfl).mono ?_
    rintro e w' ⟨rfl, rfl⟩
    go_wp2_with fail
    refine (fail_ok g 1 _ hc0 hf0).mono ?_
    rintro e w' ⟨rfl, rfl⟩
    go_wp2_with fail
    go_ret
    exact hfin
  have d1 : decide (n < 0) = false := by simpa using hneg
  obtain ⟨N, rfl⟩ := Int.eq_ofNat_of_zero_le (show 0 ≤ n by omega)
  have hN := hid (tnext_any g p N l w h hlen (by omega))
  have htl := hid (tnext_len p l N)
  obtain ⟨R, hR⟩ : ∃ R, R = tnext p l N := ⟨_, rfl⟩
  rw [show takeRaw (0, p) l (N : Int) = R by unfold takeRaw; rw [if_neg (by simp), if_neg hneg, hR]; rfl]
  rw [← hR] at hN htl
  clear hR hneg
  go_enter Tryd.func48, Tryd.ntmps48
  go_wp2_with fail
  refine (tready_is g 0 true _ hc0 rfl).mono ?_
  rintro e w' ⟨rfl, rfl⟩
  go_wp2_with fail
  refine hN.out.mono ?_
  rintro e w1 ⟨A1, c1, rfl, hs1, h11, h12, hT1, hB1⟩
  clear hc0 hc1 hc2 hf hf0
  go_wp2_with fail
  refine (clone_any A1 c1 R.2 w1 hs1 (Nat.le_trans htl.out hlen)).mono ?_
  rintro e w2 ⟨v, rfl, hv⟩
  obtain ⟨A2, c2, rfl, hs2, hA2, ho2, hb2⟩ := hv.parts
  have hfin : RawPost w g l R (.returned (.slice A2 R.2.length c2)) w2 :=
    ⟨A2, c2, rfl, hs2, fun a ha => ⟨Nat.le_trans hB1.size (hA2 a ha).1, (hA2 a ha).2⟩, (own_cap ho2).1, (own_cap ho2).2, hT1.below hb2, hB1.trans (But.of_below (R := fun _ => False) hb2) (fun n h => h.elim)⟩
  go_wp2_with fail
  go_ret
  exact hfin
end Go.Proofs.YtlcbfikmljmlpaaDoor
/- Where a taker stands, and its error. -/
namespace Go.Proofs.YtlcbfikmljmlpaaDoor
set_option linter.unusedVariables false
open Go.RowKit
set_option maxHeartbeats 400000 in
theorem tat_tk (g : Nat) (e : Int) (p : Nat) (l : List UInt8) (w : World) (h : Tk w g e p l) :
    Calls Tryd.prog 52 #[.pointer (some ⟨g, 0, none⟩)] w fun x w' => x = .returned (.int .i64 (p : Int)) ∧ w = w' := by
  obtain ⟨A, c, hc0, hc1, hc2, _⟩ := h.cells
  go_enter Tryd.func52, Tryd.ntmps52
  go_wp2
  go_ret
  exact ⟨rfl, rfl⟩
set_option maxHeartbeats 400000 in
theorem terr_tk (g : Nat) (e : Int) (p : Nat) (l : List UInt8) (w : World) (h : Tk w g e p l) :
    Calls Tryd.prog 51 #[.pointer (some ⟨g, 0, none⟩)] w fun x w' => x = .returned (.int .i64 e) ∧ w = w' := by
  obtain ⟨A, c, hc0, hc1, hc2, _⟩ := h.cells
  go_enter Tryd.func51, Tryd.ntmps51
  go_wp2
  go_ret
  exact ⟨rfl, rfl⟩
end Go.Proofs.YtlcbfikmljmlpaaDoor
/- Rows of the call's own beside a maker. -/
namespace Go.Proofs.YtlcbfikmljmlpaaDoor
set_option linter.unusedVariables false
open Go.RowKit
/-- what an append of a row turns is that row alone -/
theorem But.of_grown {B : Nat} {w w' : World} {v : Value} (hg : w.grownBy w' v.ownBlock) (hb : Below B w w') : But (fun b => v.ownBlock = some b) w w' :=
  ⟨hb.os, hb.tape, hb.output, hb.size, fun n hn h => hg.block n hn (fun hh => h hh.symm)⟩
/-- a row of the call's own stays where others turn -/
theorem own_but {R : Nat → Prop} {w w' : World} {base n size : Nat} {e : TypeId} {v : Value} {xs : List Value} (h : w.ownsRow base e size v n xs) (hb : But R w w') (hR : ∀ k, v.ownBlock = some k → ¬ R k) : w'.ownsRow base e size v n xs := by
  refine ⟨h.1, ?_⟩
  rcases h.2 with h0 | ⟨g, cap, cur, hv, h1, h2, h3⟩
  · exact .inl h0
  · exact .inr ⟨g, cap, cur, hv, h1, (hb.block g (Array.getElem?_eq_some_iff.1 h2).1 (hR g (by rw [hv]; rfl))).trans h2, h3⟩
theorem own_lt {w : World} {base n size : Nat} {e : TypeId} {v : Value} {xs : List Value} (h : w.ownsRow base e size v n xs) {k : Nat} (hk : v.ownBlock = some k) : k < w.heap.size := by
  rcases h.2 with ⟨rfl, _⟩ | ⟨g, cap, cur, rfl, h1, h2, h3⟩
  · simp [Value.ownBlock] at hk
  · have : g = k := by simpa [Value.ownBlock] using hk
    subst this; exact (Array.getElem?_eq_some_iff.1 h2).1
/-- a maker and a row of the call's own, apart from one another -/
def Both (w : World) (base g : Nat) (R : Nat → Prop) (err : Int) (l : List UInt8) (e : TypeId) (v : Value) (n : Nat) (xs : List Value) : Prop :=
  Mk w g R err l ∧ w.ownsRow base e 1 v n xs ∧ (∀ k, v.ownBlock = some k → ¬ R k) ∧ (∀ k, R k → base ≤ k)
theorem Both.made {w w' : World} {base g : Nat} {R R' : Nat → Prop} {err err' : Int} {l l' : List UInt8} {e : TypeId} {v : Value} {n : Nat} {xs : List Value} (h : Both w base g R err l e v n xs)
    (hm : Mk w' g R' err' l') (hb : But R w w') (hR : ∀ b, R' b → R b ∨ w.heap.size ≤ b) (hB : base ≤ w.heap.size) : Both w' base g R' err' l' e v n xs := by
  obtain ⟨h1, h2, h3, h4⟩ := h
  refine ⟨hm, own_but h2 hb h3, fun k hk hr => ?_, fun k hr => ?_⟩
  · rcases hR k hr with h | h
    · exact h3 k hk h
    · have := own_lt h2 hk; omega
  · rcases hR k hr with h | h
    · exact h4 k h
    · omega
theorem Both.app {w w' : World} {base g : Nat} {R : Nat → Prop} {err : Int} {l : List UInt8} {e : TypeId} {v v' : Value} {n n' : Nat} {xs xs' : List Value} (h : Both w base g R err l e v n xs)
    (ho : w'.ownsRow base e 1 v' n' xs') (hg : w.grownBy w' v.ownBlock) (hat : v'.ownBlock = v.ownBlock ∨ v'.ownBlock = some w.heap.size) (hb : Below base w w') : Both w' base g R err l e v' n' xs' := by
  obtain ⟨h1, h2, h3, h4⟩ := h
  refine ⟨h1.but (But.of_grown hg hb) (fun b hb' => h3 b hb'), ho, fun k hk hr => ?_, h4⟩
  rcases hat with h | h
  · exact h3 k (by rw [← h]; exact hk) hr
  · rw [h] at hk
    injection hk with hk
    have : k < w.heap.size := by obtain ⟨_, _, _, _, _, _, hz⟩ := h1; exact hz k hr
    omega
end Go.Proofs.YtlcbfikmljmlpaaDoor
