/- Tags compared: the program's and the reference's. -/
import Derived.Test.YtlcbfikmljmlpaaDoorTagsGetsM5
import Derived.BigQuiet
import Derived.Laws.StructEq
import Derived.WalkSpells
import Derived.WalkLawsBesides
import Derived.Test.YtlcbfikmljmlpaaDoorProg
import Derived.WalkKit
import Derived.Lib.LaidU8T
import Derived.Shelf.Unicode.ValidAny
import Derived.Test.YtlcbfikmljmlpaaDoorTagsGetsM2
import Derived.Lib.ValidLaws
import Derived.Lib.TrimUEq
namespace Go.Proofs.YtlcbfikmljmlpaaDoor
set_option linter.unusedVariables false
open Go.RowKit
def sameTag (x y : TagV) : Bool := (x.k.toList == y.k.toList) && (x.v.toList == y.v.toList)
theorem eq_tag (x y : TagV) (w : World) :
    (Op.equalIn 10000 30 (.agg #[.string x.k, .string x.v]) (.agg #[.string y.k, .string y.v])).run Tryd.prog w = .ok (sameTag x y) w := by
  have u3 := Tryd.underlying9
  have a3 := Tryd.isAgg9
  have z3 := Tryd.sizeOf9
  have hS : Tryd.prog.underlying 30 = some (.struct (Tryd.prog.fieldsOf 30)) := by kernel_rfl
  have hp : Tryd.prog.stoodInHeld 30 = false := by kernel_rfl
  unfold sameTag
  generalize hb : (x.k.toList == y.k.toList) = b
  generalize hd : (x.v.toList == y.v.toList) = d
  rw [show (10000 : Nat) = 9999 + 1 from rfl, run_equalIn_agg w 9999 30 _ _ hS hp]
  simp only [Program.fieldsOf, Tryd.underlying30]
  cases b <;> cases d <;> go_simp
def pairs (l : List TagV) : List (ByteArray × ByteArray) := l.map fun t => (t.k, t.v)
def sameT (l m : List TagV) : Bool := decide (pairs l = pairs m)
theorem sameTag_iff (x y : TagV) : sameTag x y = true ↔ (x.k, x.v) = (y.k, y.v) := by
  unfold sameTag
  rw [list_eql, list_eql, Bool.and_eq_true, decide_eq_true_iff, decide_eq_true_iff, Prod.mk.injEq]
theorem pairs_succ (l : List TagV) (k : Nat) (h : k < l.length) : pairs (l.take (k + 1)) = pairs (l.take k) ++ [(l[k].k, l[k].v)] := by
  unfold pairs
  rw [List.take_succ_eq_append_getElem h, List.map_append]
  rfl
theorem pairs_ne {l m : List TagV} {k : Nat} (h : k < l.length) (h' : k < m.length) (hne : (l[k].k, l[k].v) ≠ (m[k].k, m[k].v)) : sameT l m = false := by
  apply decide_eq_false
  intro he
  apply hne
  have h1 : (pairs l)[k]? = (pairs m)[k]? := by rw [he]
  unfold pairs at h1
  rw [List.getElem?_map, List.getElem?_map, List.getElem?_eq_getElem h, List.getElem?_eq_getElem h'] at h1
  simpa using h1
theorem pairs_len {l m : List TagV} (h : l.length ≠ m.length) : sameT l m = false := by
  apply decide_eq_false
  intro he
  apply h
  have := congrArg List.length he
  simpa [pairs] using this
theorem pairs_inj : ∀ {l m : List TagV}, pairs l = pairs m → l = m
  | [], [], _ => rfl
  | [], _ :: _, h => by simp [pairs] at h
  | _ :: _, [], h => by simp [pairs] at h
  | ⟨a, b⟩ :: l, ⟨c, d⟩ :: m, h => by
    simp only [pairs, List.map_cons, List.cons.injEq, Prod.mk.injEq] at h
    obtain ⟨⟨rfl, rfl⟩, h⟩ := h
    rw [pairs_inj h]
theorem sameT_refl (l : List TagV) : sameT l l = true := decide_eq_true rfl
theorem sameT_eq {l m : List TagV} (h : sameT l m = true) : l = m := pairs_inj (of_decide_eq_true h)
set_option maxRecDepth 20000 in
set_option maxHeartbeats 4000000 in
theorem equalT_any (A B : Option Addr) (c d : Nat) (l m : List TagV) (w : World) (hl : SeesT w A l) (hm : SeesT w B m) (h1 : l.length ≤ maxLen) (h2 : m.length ≤ maxLen) :
    Calls Tryd.prog 36 #[.slice A l.length c, .slice B m.length d] w fun e w' => e = .returned (.bool (sameT l m)) ∧ Below w.heap.size w w' := by
  unfold maxLen at h1 h2
  obtain ⟨R, hR⟩ : ∃ R, R = sameT l m := ⟨_, rfl⟩
  rw [← hR]
  by_cases hlen : l.length = m.length
  · have dn : ((l.length : Int) != (m.length : Int)) = false := by simp [hlen]
    have HR := hid hR
    have HLEN := hid hlen
    clear hR hlen
    go_enter Tryd.func36, Tryd.ntmps36
    go_wp2_with fail
    go_loopw [13] (fun i wr => ∃ k : Nat, k ≤ l.length ∧ i = .int .i64 (k : Int) ∧ Below w.heap.size w wr ∧ Hid (pairs (l.take k) = pairs (m.take k))) (fun i _ => l.length - (intOf i).toNat)
    case atStart => exact ⟨0, by omega, rfl, Below.refl _ _, hid rfl⟩
    case round =>
      obtain ⟨k, hk, rfl, hbr, hE⟩ := hrel
      by_cases hlt : k < l.length
      · have dk : decide ((k : Int) < (l.length : Int)) = true := decide_eq_true (by omega)
        have hltm : k < m.length := by rw [← HLEN.out]; exact hlt
        have dkl : (k : Int) < (l.length : Int) := by omega
        have dkm : (k : Int) < (m.length : Int) := by omega
        obtain ⟨a, rfl, x1, x2⟩ := (hl.below hbr).at hlt
        obtain ⟨b, rfl, y1, y2⟩ := (hm.below hbr).at hltm
        have HS1 := hid (pairs_succ l k hlt)
        have HS2 := hid (pairs_succ m k hltm)
        have HNE := hid (fun h => pairs_ne hlt hltm h)
        have hq := eq_tag l[k] m[k]
        have hqe := hid (sameTag_iff l[k] m[k])
        generalize l[k] = x at *
        generalize m[k] = y at *
        obtain ⟨xk, xv⟩ := x
        obtain ⟨yk, yv⟩ := y
        simp only at x1 x2 y1 y2 hq
        generalize sameTag ⟨xk, xv⟩ ⟨yk, yv⟩ = q at *
        clear hl hm
        cases q with
        | true =>
          have HE2 := hid (show pairs (l.take (k + 1)) = pairs (m.take (k + 1)) by rw [HS1.out, HS2.out, hE.out, hqe.out.1 rfl])
          go_wp2_with (go_quiet (fail))
          exact ⟨⟨k + 1, by omega, by go_num, ⟨hbr.os, hbr.tape, hbr.output, hbr.size, hbr.block⟩, HE2⟩, by simp [intOf]; omega⟩
        | false =>
          obtain rfl : R = false := by rw [HR.out]; exact HNE.out (fun h => by have := hqe.out.2 h; simp at this)
          clear HR HNE
          go_wp2_with (go_quiet (fail))
          go_ret
          exact ⟨rfl, ⟨hbr.os, hbr.tape, hbr.output, hbr.size, hbr.block⟩⟩
      · obtain rfl : k = l.length := by omega
        have dk : decide ((l.length : Int) < (l.length : Int)) = false := decide_eq_false (by omega)
        obtain rfl : R = true := by
          rw [HR.out]
          have := hE.out
          rw [List.take_length, HLEN.out, List.take_length] at this
          exact decide_eq_true this
        clear HR
        go_wp2_with fail
        go_ret
        exact ⟨rfl, hbr⟩
  · have dn : ((l.length : Int) != (m.length : Int)) = true := by simp; omega
    obtain rfl : R = false := by rw [hR]; exact pairs_len hlen
    clear hR
    go_enter Tryd.func36, Tryd.ntmps36
    go_wp2_with fail
    go_ret
    exact ⟨rfl, Below.refl _ _⟩
set_option maxRecDepth 20000 in
set_option maxHeartbeats 4000000 in
theorem rsameT_any (A B : Option Addr) (c d : Nat) (l m : List TagV) (w : World) (hl : SeesT w A l) (hm : SeesT w B m) (h1 : l.length ≤ maxLen) (h2 : m.length ≤ maxLen) :
    Calls Tryd.prog 14 #[.slice A l.length c, .slice B m.length d] w fun e w' => e = .returned (.bool (sameT l m)) ∧ Below w.heap.size w w' := by
  unfold maxLen at h1 h2
  obtain ⟨R, hR⟩ : ∃ R, R = sameT l m := ⟨_, rfl⟩
  rw [← hR]
  by_cases hlen : l.length = m.length
  · have dn : ((l.length : Int) != (m.length : Int)) = false := by simp [hlen]
    have HR := hid hR
    have HLEN := hid hlen
    clear hR hlen
    go_enter Tryd.func14, Tryd.ntmps14
    go_wp2_with fail
    go_loopw [5] (fun i wr => ∃ k : Nat, k ≤ l.length ∧ i = .int .i64 (k : Int) ∧ Below w.heap.size w wr ∧ Hid (pairs (l.take k) = pairs (m.take k))) (fun i _ => l.length - (intOf i).toNat)
    case atStart => exact ⟨0, by omega, rfl, Below.refl _ _, hid rfl⟩
    case round =>
      obtain ⟨k, hk, rfl, hbr, hE⟩ := hrel
      by_cases hlt : k < l.length
      · have dk : decide ((k : Int) < (l.length : Int)) = true := decide_eq_true (by omega)
        have hltm : k < m.length := by rw [← HLEN.out]; exact hlt
        have dkl : (k : Int) < (l.length : Int) := by omega
        have dkm : (k : Int) < (m.length : Int) := by omega
        obtain ⟨a, rfl, x1, x2⟩ := (hl.below hbr).at hlt
        obtain ⟨b, rfl, y1, y2⟩ := (hm.below hbr).at hltm
        have HS1 := hid (pairs_succ l k hlt)
        have HS2 := hid (pairs_succ m k hltm)
        have HNE := hid (fun h => pairs_ne hlt hltm h)
        have hq := eq_tag l[k] m[k]
        have hqe := hid (sameTag_iff l[k] m[k])
        generalize l[k] = x at *
        generalize m[k] = y at *
        obtain ⟨xk, xv⟩ := x
        obtain ⟨yk, yv⟩ := y
        simp only at x1 x2 y1 y2 hq
        generalize sameTag ⟨xk, xv⟩ ⟨yk, yv⟩ = q at *
        clear hl hm
        cases q with
        | true =>
          have HE2 := hid (show pairs (l.take (k + 1)) = pairs (m.take (k + 1)) by rw [HS1.out, HS2.out, hE.out, hqe.out.1 rfl])
          go_wp2_with (go_quiet (fail))
          exact ⟨⟨k + 1, by omega, by go_num, ⟨hbr.os, hbr.tape, hbr.output, hbr.size, hbr.block⟩, HE2⟩, by simp [intOf]; omega⟩
        | false =>
          obtain rfl : R = false := by rw [HR.out]; exact HNE.out (fun h => by have := hqe.out.2 h; simp at this)
          clear HR HNE
          go_wp2_with (go_quiet (fail))
          go_ret
          exact ⟨rfl, ⟨hbr.os, hbr.tape, hbr.output, hbr.size, hbr.block⟩⟩
      · obtain rfl : k = l.length := by omega
        have dk : decide ((l.length : Int) < (l.length : Int)) = false := decide_eq_false (by omega)
        obtain rfl : R = true := by
          rw [HR.out]
          have := hE.out
          rw [List.take_length, HLEN.out, List.take_length] at this
          exact decide_eq_true this
        clear HR
        go_wp2_with fail
        go_ret
        exact ⟨rfl, hbr⟩
  · have dn : ((l.length : Int) != (m.length : Int)) = true := by simp; omega
    obtain rfl : R = false := by rw [hR]; exact pairs_len hlen
    clear hR
    go_enter Tryd.func14, Tryd.ntmps14
    go_wp2_with fail
    go_ret
    exact ⟨rfl, Below.refl _ _⟩
theorem psameT_any (A B : Option Addr) (c d : Nat) (l m : List TagV) (w : World) (hl : SeesT w A l) (hm : SeesT w B m) (h1 : l.length ≤ maxLen) (h2 : m.length ≤ maxLen) :
    Calls Tryd.prog 13 #[.slice A l.length c, .slice B m.length d] w fun e w' => e = .returned (.bool (sameT l m)) ∧ Below w.heap.size w w' := by
  have h := equalT_any A B c d l m w hl hm h1 h2
  generalize sameT l m = q at *
  clear hl hm
  go_enter Tryd.func13, Tryd.ntmps13
  go_wp2_with fail
  refine h.mono ?_
  rintro e w1 ⟨rfl, hb⟩
  go_wp2_with fail
  go_ret
  exact ⟨rfl, hb⟩
end Go.Proofs.YtlcbfikmljmlpaaDoor
/- utf8.ValidString, laid at this program; what its two tables hold. -/
namespace Go.Proofs.YtlcbfikmljmlpaaDoor
set_option linter.unusedVariables false
open Go.RowKit Go.Shelf Go.Lib Go.Proofs
def validRen : Ren where
  f := fun x => match x with
    | 196 => 62
    | 259 => 75
    | n => n
  t := fun x => match x with
    | 9 => 9
    | 4 => 4
    | 3 => 3
    | 5 => 5
    | 12 => 12
    | 119 => 101
    | 0 => 0
    | 46 => 70
    | 139 => 104
    | 138 => 103
    | 53 => 108
    | n => n
  g := fun x => match x with
    | 3 => 0
    | 4 => 1
    | n => n
theorem laysValid : Lays.n196 Tryd.prog validRen where
  mixed := by kernel_rfl
  f196 := by kernel_rfl
  f259 := by kernel_rfl
  t0 := by kernel_rfl
  a0 := fun _ => by kernel_rfl
  z0 := fun _ => by kernel_rfl
  v0 := fun _ => by kernel_rfl
  t3 := by kernel_rfl
  a3 := fun _ => by kernel_rfl
  z3 := fun _ => by kernel_rfl
  v3 := fun _ => by kernel_rfl
  t4 := by kernel_rfl
  a4 := fun _ => by kernel_rfl
  z4 := fun _ => by kernel_rfl
  v4 := fun _ => by kernel_rfl
  t5 := by kernel_rfl
  a5 := fun _ => by kernel_rfl
  z5 := fun _ => by kernel_rfl
  v5 := fun _ => by kernel_rfl
  t9 := by kernel_rfl
  a9 := fun _ => by kernel_rfl
  z9 := fun _ => by kernel_rfl
  v9 := fun _ => by kernel_rfl
  t12 := by kernel_rfl
  a12 := fun _ => by kernel_rfl
  z12 := fun _ => by kernel_rfl
  v12 := fun _ => by kernel_rfl
  t46 := by kernel_rfl
  a46 := fun _ => by kernel_rfl
  z46 := fun _ => by kernel_rfl
  v46 := fun _ => by kernel_rfl
  t53 := by kernel_rfl
  a53 := fun _ => by kernel_rfl
  z53 := fun _ => by kernel_rfl
  v53 := fun _ => by kernel_rfl
  t119 := by kernel_rfl
  a119 := fun _ => by kernel_rfl
  z119 := fun _ => by kernel_rfl
  t138 := by kernel_rfl
  a138 := fun _ => by kernel_rfl
  z138 := fun _ => by kernel_rfl
  v138 := fun _ => by kernel_rfl
  t139 := by kernel_rfl
  a139 := fun _ => by kernel_rfl
  z139 := fun _ => by kernel_rfl
  v139 := fun _ => by kernel_rfl
  g3 := by kernel_rfl
  g4 := by kernel_rfl
/-- the two tables as their initialisers lay them -/
def Tabs (w : World) : Prop := Lib.Utf8Tabs (validRen.g 3) (validRen.g 4) w
theorem Tabs.below {w w' : World} (h : Tabs w) (hb : Below w.heap.size w w') : Tabs w' := Utf8Tabs_below h hb
theorem valid_any (s : ByteArray) (w : World) (hs : s.size ≤ 9223372036854775807) (hT : Tabs w) :
    Calls Tryd.prog 62 #[.string s] w fun e w' => e = .returned (.bool (Lib.validD s.data.toList)) ∧ Below w.heap.size w w' :=
  Any.utf8_ValidString laysValid s w hs hT
theorem extra : U8Extra Tryd.prog validRen := ⟨by kernel_rfl, by kernel_rfl, by kernel_rfl, by kernel_rfl, by kernel_rfl, by kernel_rfl, by kernel_rfl⟩
end Go.Proofs.YtlcbfikmljmlpaaDoor
/- What a letter is: the decoder's step and the document's; keys and values, plain. -/
namespace Go.Proofs.YtlcbfikmljmlpaaDoor
set_option linter.unusedVariables false
open Go.RowKit
/-- the decoder's step is the document's letter; where there is none: (U+FFFD, 1) -/
theorem dec_let (s : ByteArray) (p : Nat) : Utf8.decode s p = if (letL s p).1 = 0 then (65533, 1) else ((letL s p).2, (letL s p).1) := by
  have h0 := byL_lt s p
  have h1 := byL_lt s (p + 1)
  have h2 := byL_lt s (p + 2)
  have h3 := byL_lt s (p + 3)
  have fin : ∀ (a : Nat × Nat) (b : Nat × Nat), letL s p = a → Utf8.decode s p = b → (b = if a.1 = 0 then (65533, 1) else (a.2, a.1)) → Utf8.decode s p = if (letL s p).1 = 0 then (65533, 1) else ((letL s p).2, (letL s p).1) := fun a b e1 e2 e3 => by
    rw [e1, e2, e3]
  by_cases a : byL s p < 128
  · exact fin (1, byL s p) (byL s p, 1) (by unfold letL; rw [if_pos a]) (by rw [decode_is, if_pos a]) rfl
  by_cases b : (byL s p / 32 == 6 && conL s (p + 1)) = true
  · have b' := b
    simp only [Bool.and_eq_true, beq_iff_eq] at b'
    obtain ⟨b1, b2⟩ := b'
    have b3 := b2
    unfold conL at b3
    simp only [Bool.and_eq_true, decide_eq_true_eq, beq_iff_eq] at b3
    by_cases c : 194 ≤ byL s p
    · exact fin (2, r2 s p) (r2 s p, 2) (by unfold letL; rw [if_neg a, if_pos (by simp only [b2, Bool.and_eq_true, decide_eq_true_eq, eq_self, and_true]; omega)]) (by rw [decode_is, if_neg a, if_pos b, if_pos (by unfold r2; omega)]) rfl
    · exact fin (0, 0) (65533, 1) (by
        unfold letL
        rw [if_neg a, if_neg (by simp only [Bool.and_eq_true, decide_eq_true_eq]; omega), if_neg (by simp only [Bool.and_eq_true, decide_eq_true_eq]; omega), if_neg (by simp only [Bool.and_eq_true, decide_eq_true_eq]; omega)])
        (by rw [decode_is, if_neg a, if_pos b, if_neg (by unfold r2; omega)]) rfl
  have hb : ¬ ((decide (194 ≤ byL s p) && decide (byL s p < 224) && conL s (p + 1)) = true) := by
    intro h
    simp only [Bool.and_eq_true, decide_eq_true_eq] at h
    exact b (by simp only [Bool.and_eq_true, beq_iff_eq]; exact ⟨by omega, h.2⟩)
  by_cases c : (byL s p / 16 == 14 && conL s (p + 1) && conL s (p + 2)) = true
  · have c' := c
    simp only [Bool.and_eq_true, beq_iff_eq] at c'
    obtain ⟨⟨c1, c2⟩, c3⟩ := c'
    by_cases d : (decide (2048 ≤ r3 s p) && okR (r3 s p)) = true
    · exact fin (3, r3 s p) (r3 s p, 3) (by
        unfold letL
        rw [if_neg a, if_neg hb, if_pos (by rw [d, c2, c3]; simp only [Bool.and_eq_true, decide_eq_true_eq, eq_self, and_true]; omega)])
        (by rw [decode_is, if_neg a, if_neg b, if_pos c, if_pos d]) rfl
    · exact fin (0, 0) (65533, 1) (by
        unfold letL
        rw [if_neg a, if_neg hb, if_neg (fun h => d (by rw [Bool.and_eq_true] at h; exact h.2)), if_neg (by simp only [Bool.and_eq_true, decide_eq_true_eq]; omega)])
        (by rw [decode_is, if_neg a, if_neg b, if_pos c, if_neg d]) rfl
  have hc : ¬ ((decide (224 ≤ byL s p) && decide (byL s p < 240) && conL s (p + 1) && conL s (p + 2) && (decide (2048 ≤ r3 s p) && okR (r3 s p))) = true) := by
    intro h
    simp only [Bool.and_eq_true, decide_eq_true_eq] at h
    exact c (by simp only [Bool.and_eq_true, beq_iff_eq]; exact ⟨⟨by omega, h.1.1.2⟩, h.1.2⟩)
  by_cases d : (byL s p / 8 == 30 && conL s (p + 1) && conL s (p + 2) && conL s (p + 3)) = true
  · have d' := d
    simp only [Bool.and_eq_true, beq_iff_eq] at d'
    obtain ⟨⟨⟨d1, d2⟩, d3⟩, d4⟩ := d'
    by_cases e : (decide (65536 ≤ r4 s p) && okR (r4 s p)) = true
    · have e' := e
      unfold okR r4 at e'
      simp only [Bool.and_eq_true, Bool.or_eq_true, decide_eq_true_eq] at e'
      exact fin (4, r4 s p) (r4 s p, 4) (by
        unfold letL
        rw [if_neg a, if_neg hb, if_neg hc, if_pos (by rw [e, d2, d3, d4]; simp only [Bool.and_eq_true, decide_eq_true_eq, eq_self, and_true]; omega)])
        (by rw [decode_is, if_neg a, if_neg b, if_neg c, if_pos d, if_pos e]) rfl
    · exact fin (0, 0) (65533, 1) (by
        unfold letL
        rw [if_neg a, if_neg hb, if_neg hc, if_neg (fun h => e (by rw [Bool.and_eq_true] at h; exact h.2))])
        (by rw [decode_is, if_neg a, if_neg b, if_neg c, if_pos d, if_neg e]) rfl
  · exact fin (0, 0) (65533, 1) (by
      unfold letL
      rw [if_neg a, if_neg hb, if_neg hc, if_neg (fun h => d (by
        simp only [Bool.and_eq_true, decide_eq_true_eq] at h
        simp only [Bool.and_eq_true, beq_iff_eq]
        exact ⟨⟨⟨by omega, h.1.1.1.2⟩, h.1.1.2⟩, h.1.2⟩))])
      (by rw [decode_is, if_neg a, if_neg b, if_neg c, if_neg d]) rfl
/-- the letter at a place, as a number -/
def runL (s : ByteArray) (p : Nat) : Nat := (Utf8.decode s p).1
theorem runL_low (s : ByteArray) (p : Nat) (h : byL s p < 128) : runL s p = byL s p ∧ widL s p = 1 := by
  unfold runL widL
  rw [decode_is, if_pos h]
  exact ⟨rfl, rfl⟩
theorem runL_high (s : ByteArray) (p : Nat) (h : ¬ byL s p < 128) : 128 ≤ runL s p := by
  unfold runL
  rw [decode_is, if_neg h]
  split
  · split
    · assumption
    · decide
  · split
    · split
      · rename_i h3
        simp only [Bool.and_eq_true, decide_eq_true_eq] at h3
        have := h3.1
        show 128 ≤ r3 s p
        omega
      · decide
    · split
      · split
        · rename_i h4
          simp only [Bool.and_eq_true, decide_eq_true_eq] at h4
          have := h4.1
          show 128 ≤ r4 s p
          omega
        · decide
      · decide
/-- is a byte one of a key? -/
def keyN (b : Nat) : Bool := !(decide (b < 32) || decide (125 < b) || decide (b = 61))
/-- from a place on, are all bytes those of a key? -/
def keyFrom (s : ByteArray) : Nat → Nat → Bool
  | 0, _ => true
  | k + 1, p => if p < s.size then keyN (byL s p) && keyFrom s k (p + 1) else true
def keyB (s : ByteArray) : Bool := keyFrom s s.size 0 && (decide (1 ≤ s.size) && decide (s.size ≤ 32))
theorem keyFrom_step (s : ByteArray) (k p : Nat) (h : p < s.size) : keyFrom s (k + 1) p = (keyN (byL s p) && keyFrom s k (p + 1)) := by
  show (if p < s.size then _ else _) = _
  rw [if_pos h]
theorem keyFrom_end (s : ByteArray) (k p : Nat) (h : ¬ p < s.size) : keyFrom s k p = true := by
  cases k with
  | zero => rfl
  | succ k => show (if p < s.size then _ else _) = _; rw [if_neg h]
/-- from a place on, are all letters those of a value? by the document -/
def valFrom (s : ByteArray) : Nat → Nat → Bool
  | 0, _ => true
  | k + 1, p => if p < s.size then (if (letL s p).1 = 0 ∨ (letL s p).2 < 32 then false else valFrom s k (p + (letL s p).1)) else true
def valB (s : ByteArray) : Bool := decide (s.size ≤ 1024) && valFrom s s.size 0
/-- .. by the decoder: no letter below 32 -/
def runFrom (s : ByteArray) : Nat → Nat → Bool
  | 0, _ => true
  | k + 1, p => if p < s.size then (if runL s p < 32 then false else runFrom s k (p + widL s p)) else true
theorem valFrom_end (s : ByteArray) (k p : Nat) (h : ¬ p < s.size) : valFrom s k p = true := by
  cases k with
  | zero => rfl
  | succ k => show (if p < s.size then _ else _) = _; rw [if_neg h]
theorem runFrom_end (s : ByteArray) (k p : Nat) (h : ¬ p < s.size) : runFrom s k p = true := by
  cases k with
  | zero => rfl
  | succ k => show (if p < s.size then _ else _) = _; rw [if_neg h]
theorem valFrom_step (s : ByteArray) (k p : Nat) (h : p < s.size) : valFrom s (k + 1) p = if (letL s p).1 = 0 ∨ (letL s p).2 < 32 then false else valFrom s k (p + (letL s p).1) := by
  show (if p < s.size then _ else _) = _
  rw [if_pos h]
theorem runFrom_step (s : ByteArray) (k p : Nat) (h : p < s.size) : runFrom s (k + 1) p = if runL s p < 32 then false else runFrom s k (p + widL s p) := by
  show (if p < s.size then _ else _) = _
  rw [if_pos h]
theorem runFrom_more (s : ByteArray) : ∀ (k m p : Nat), s.size ≤ p + k → k ≤ m → runFrom s m p = runFrom s k p
  | 0, m, p, h, _ => by rw [runFrom_end s m p (by omega), runFrom_end s 0 p (by omega)]
  | k + 1, m, p, h, hm => by
    obtain ⟨m, rfl⟩ : ∃ j, m = j + 1 := ⟨m - 1, by omega⟩
    by_cases hp : p < s.size
    · rw [runFrom_step s m p hp, runFrom_step s k p hp]
      have := widL_pos s p hp
      rw [runFrom_more s k m _ (by omega) (by omega)]
    · rw [runFrom_end s _ p hp, runFrom_end s _ p hp]
theorem letL_one (s : ByteArray) (p : Nat) (h : (letL s p).1 = 1) : (letL s p).2 < 128 := by
  unfold letL at h ⊢
  split
  · assumption
  · rename_i h0
    rw [if_neg h0] at h
    split at h
    · simp at h
    · split at h
      · simp at h
      · split at h
        · simp at h
        · simp at h
/-- both readings of a value are one -/
theorem val_eq (s : ByteArray) : ∀ (k p : Nat), s.size ≤ p + k → valFrom s k p = (Lib.validD (s.data.toList.drop p) && runFrom s k p)
  | 0, p, h => by
    rw [valFrom_end s 0 p (by omega), runFrom_end s 0 p (by omega)]
    have hn : s.data.toList.drop p = [] := List.drop_eq_nil_of_le (by rw [Array.length_toList]; exact h)
    rw [hn]
    rfl
  | k + 1, p, h => by
    by_cases hp : p < s.size
    · have hne : s.data.toList.drop p ≠ [] := by
        intro hn
        have := List.drop_eq_nil_iff.1 hn
        rw [Array.length_toList] at this
        have : s.size ≤ p := this
        omega
      rw [valFrom_step s k p hp, runFrom_step s k p hp, Lib.validD_step _ hne, Lib.decodeL_drop]
      unfold runL widL
      rw [dec_let]
      by_cases h0 : (letL s p).1 = 0
      · rw [if_pos (.inl h0), if_pos h0]
        simp
      · rw [if_neg h0]
        have hw : 1 ≤ (letL s p).1 := by omega
        have hno : ¬ ((letL s p).2 = 65533 ∧ (letL s p).1 = 1) := by
          rintro ⟨e1, e2⟩
          have hd := dec_let s p
          rw [if_neg h0, e1, e2] at hd
          have hl := letL_one s p e2
          rw [e1] at hl
          omega
        dsimp only
        rw [if_neg hno]
        by_cases hs : (letL s p).2 < 32
        · rw [if_pos (.inr hs), if_pos hs]; simp
        · rw [if_neg (by omega), if_neg hs, List.drop_drop]
          exact val_eq s k _ (by omega)
    · have hn : s.data.toList.drop p = [] := List.drop_eq_nil_of_le (by rw [Array.length_toList]; exact Nat.le_of_not_lt hp)
      rw [valFrom_end s _ p hp, runFrom_end s _ p hp, hn]
      rfl
end Go.Proofs.YtlcbfikmljmlpaaDoor
