/- Tags compared: the program's and the reference's. -/
import Derived.Test.YtlcbfikmljmlpaaDoorTagsSees
import Derived.BigQuiet
import Derived.Laws.StructEq
import Derived.WalkSpells
import Derived.WalkLawsBesides
namespace Go.Proofs.YtlcbfikmljmlpaaDoor
set_option linter.unusedVariables false
open Go.RowKit
def sameTag (x y : TagV) : Bool := (x.k.toList == y.k.toList) && (x.v.toList == y.v.toList)
theorem eq_tag (x y : TagV) (w : World) :
    (Op.equalIn 10000 30 (.agg #[.string x.k, .string x.v]) (.agg #[.string y.k, .string y.v])).run Tryd.prog w = .ok (sameTag x y) w := by
  have u3 := Tryd.underlying9
  have a3 := Tryd.isAgg9
  have z3 := Tryd.sizeOf9
  have hS : Tryd.prog.underlying 30 = some (.struct (Tryd.prog.fieldsOf 30)) := by kernel_rfl
  have hp : Tryd.prog.stoodInHeld 30 = false := by kernel_rfl
  unfold sameTag
  generalize hb : (x.k.toList == y.k.toList) = b
  generalize hd : (x.v.toList == y.v.toList) = d
  rw [show (10000 : Nat) = 9999 + 1 from rfl, run_equalIn_agg w 9999 30 _ _ hS hp]
  simp only [Program.fieldsOf, Tryd.underlying30]
  cases b <;> cases d <;> go_simp
def pairs (l : List TagV) : List (ByteArray × ByteArray) := l.map fun t => (t.k, t.v)
def sameT (l m : List TagV) : Bool := decide (pairs l = pairs m)
theorem sameTag_iff (x y : TagV) : sameTag x y = true ↔ (x.k, x.v) = (y.k, y.v) := by
  unfold sameTag
  rw [list_eql, list_eql, Bool.and_eq_true, decide_eq_true_iff, decide_eq_true_iff, Prod.mk.injEq]
theorem pairs_succ (l : List TagV) (k : Nat) (h : k < l.length) : pairs (l.take (k + 1)) = pairs (l.take k) ++ [(l[k].k, l[k].v)] := by
  unfold pairs
  rw [List.take_succ_eq_append_getElem h, List.map_append]
  rfl
theorem pairs_ne {l m : List TagV} {k : Nat} (h : k < l.length) (h' : k < m.length) (hne : (l[k].k, l[k].v) ≠ (m[k].k, m[k].v)) : sameT l m = false := by
  apply decide_eq_false
  intro he
  apply hne
  have h1 : (pairs l)[k]? = (pairs m)[k]? := by rw [he]
  unfold pairs at h1
  rw [List.getElem?_map, List.getElem?_map, List.getElem?_eq_getElem h, List.getElem?_eq_getElem h'] at h1
  simpa using h1
theorem pairs_len {l m : List TagV} (h : l.length ≠ m.length) : sameT l m = false := by
  apply decide_eq_false
  intro he
  apply h
  have := congrArg List.length he
  simpa [pairs] using this
theorem pairs_inj : ∀ {l m : List TagV}, pairs l = pairs m → l = m
  | [], [], _ => rfl
  | [], _ :: _, h => by simp [pairs] at h
  | _ :: _, [], h => by simp [pairs] at h
  | ⟨a, b⟩ :: l, ⟨c, d⟩ :: m, h => by
    simp only [pairs, List.map_cons, List.cons.injEq, Prod.mk.injEq] at h
    obtain ⟨⟨rfl, rfl⟩, h⟩ := h
    rw [pairs_inj h]
theorem sameT_refl (l : List TagV) : sameT l l = true := decide_eq_true rfl
theorem sameT_eq {l m : List TagV} (h : sameT l m = true) : l = m := pairs_inj (of_decide_eq_true h)
set_option maxRecDepth 20000 in
set_option maxHeartbeats 4000000 in
theorem equalT_any (A B : Option Addr) (c d : Nat) (l m : List TagV) (w : World) (hl : SeesT w A l) (hm : SeesT w B m) (h1 : l.length ≤ maxLen) (h2 : m.length ≤ maxLen) :
    Calls Tryd.prog 36 #[.slice A l.length c, .slice B m.length d] w fun e w' => e = .returned (.bool (sameT l m)) ∧ Below w.heap.size w w' := by
  unfold maxLen at h1 h2
  obtain ⟨R, hR⟩ : ∃ R, R = sameT l m := ⟨_, rfl⟩
  rw [← hR]
  by_cases hlen : l.length = m.length
  · have dn : ((l.length : Int) != (m.length : Int)) = false := by simp [hlen]
    have HR := hid hR
    have HLEN := hid hlen
    clear hR hlen
    go_enter Tryd.func36, Tryd.ntmps36
    go_wp2_with fail
    go_loopw [13] (fun i wr => ∃ k : Nat, k ≤ l.length ∧ i = .int .i64 (k : Int) ∧ Below w.heap.size w wr ∧ Hid (pairs (l.take k) = pairs (m.take k))) (fun i _ => l.length - (intOf i).toNat)
    case atStart => exact ⟨0, by omega, rfl, Below.refl _ _, hid rfl⟩
    case round =>
      obtain ⟨k, hk, rfl, hbr, hE⟩ := hrel
      by_cases hlt : k < l.length
      · have dk : decide ((k : Int) < (l.length : Int)) = true := decide_eq_true (by omega)
        have hltm : k < m.length := by rw [← HLEN.out]; exact hlt
        have dkl : (k : Int) < (l.length : Int) := by omega
        have dkm : (k : Int) < (m.length : Int) := by omega
        obtain ⟨a, rfl, x1, x2⟩ := (hl.below hbr).at hlt
        obtain ⟨b, rfl, y1, y2⟩ := (hm.below hbr).at hltm
        have HS1 := hid (pairs_succ l k hlt)
        have HS2 := hid (pairs_succ m k hltm)
        have HNE := hid (fun h => pairs_ne hlt hltm h)
        have hq := eq_tag l[k] m[k]
        have hqe := hid (sameTag_iff l[k] m[k])
        generalize l[k] = x at *
        generalize m[k] = y at *
        obtain ⟨xk, xv⟩ := x
        obtain ⟨yk, yv⟩ := y
        simp only at x1 x2 y1 y2 hq
        generalize sameTag ⟨xk, xv⟩ ⟨yk, yv⟩ = q at *
        clear hl hm
        cases q with
        | true =>
          have HE2 := hid (show pairs (l.take (k + 1)) = pairs (m.take (k + 1)) by rw [HS1.out, HS2.out, hE.out, hqe.out.1 rfl])
          go_wp2_with (go_quiet (fail))
          exact ⟨⟨k + 1, by omega, by go_num, ⟨hbr.os, hbr.tape, hbr.output, hbr.size, hbr.block⟩, HE2⟩, by simp [intOf]; omega⟩
        | false =>
          obtain rfl : R = false := by rw [HR.out]; exact HNE.out (fun h => by have := hqe.out.2 h; simp at this)
          clear HR HNE
          go_wp2_with (go_quiet (fail))
          go_ret
          exact ⟨rfl, ⟨hbr.os, hbr.tape, hbr.output, hbr.size, hbr.block⟩⟩
      · obtain rfl : k = l.length := by omega
        have dk : decide ((l.length : Int) < (l.length : Int)) = false := decide_eq_false (by omega)
        obtain rfl : R = true := by
          rw [HR.out]
          have := hE.out
          rw [List.take_length, HLEN.out, List.take_length] at this
          exact decide_eq_true this
        clear HR
        go_wp2_with fail
        go_ret
        exact ⟨rfl, hbr⟩
  · have dn : ((l.length : Int) != (m.length : Int)) = true := by simp; omega
    obtain rfl : R = false := by rw [hR]; exact pairs_len hlen
    clear hR
    go_enter Tryd.func36, Tryd.ntmps36
    go_wp2_with fail
    go_ret
    exact ⟨rfl, Below.refl _ _⟩
set_option maxRecDepth 20000 in
set_option maxHeartbeats 4000000 in
theorem rsameT_any (A B : Option Addr) (c d : Nat) (l m : List TagV) (w : World) (hl : SeesT w A l) (hm : SeesT w B m) (h1 : l.length ≤ maxLen) (h2 : m.length ≤ maxLen) :
    Calls Tryd.prog 14 #[.slice A l.length c, .slice B m.length d] w fun e w' => e = .returned (.bool (sameT l m)) ∧ Below w.heap.size w w' := by
  unfold maxLen at h1 h2
  obtain ⟨R, hR⟩ : ∃ R, R = sameT l m := ⟨_, rfl⟩
  rw [← hR]
  by_cases hlen : l.length = m.length
  · have dn : ((l.length : Int) != (m.length : Int)) = false := by simp [hlen]
    have HR := hid hR
    have HLEN := hid hlen
    clear hR hlen
    go_enter Tryd.func14, Tryd.ntmps14
    go_wp2_with fail
    go_loopw [5] (fun i wr => ∃ k : Nat, k ≤ l.length ∧ i = .int .i64 (k : Int) ∧ Below w.heap.size w wr ∧ Hid (pairs (l.take k) = pairs (m.take k))) (fun i _ => l.length - (intOf i).toNat)
    case atStart => exact ⟨0, by omega, rfl, Below.refl _ _, hid rfl⟩
    case round =>
      obtain ⟨k, hk, rfl, hbr, hE⟩ := hrel
      by_cases hlt : k < l.length
      · have dk : decide ((k : Int) < (l.length : Int)) = true := decide_eq_true (by omega)
        have hltm : k < m.length := by rw [← HLEN.out]; exact hlt
        have dkl : (k : Int) < (l.length : Int) := by omega
        have dkm : (k : Int) < (m.length : Int) := by omega
        obtain ⟨a, rfl, x1, x2⟩ := (hl.below hbr).at hlt
        obtain ⟨b, rfl, y1, y2⟩ := (hm.below hbr).at hltm
        have HS1 := hid (pairs_succ l k hlt)
        have HS2 := hid (pairs_succ m k hltm)
        have HNE := hid (fun h => pairs_ne hlt hltm h)
        have hq := eq_tag l[k] m[k]
        have hqe := hid (sameTag_iff l[k] m[k])
        generalize l[k] = x at *
        generalize m[k] = y at *
        obtain ⟨xk, xv⟩ := x
        obtain ⟨yk, yv⟩ := y
        simp only at x1 x2 y1 y2 hq
        generalize sameTag ⟨xk, xv⟩ ⟨yk, yv⟩ = q at *
        clear hl hm
        cases q with
        | true =>
          have HE2 := hid (show pairs (l.take (k + 1)) = pairs (m.take (k + 1)) by rw [HS1.out, HS2.out, hE.out, hqe.out.1 rfl])
          go_wp2_with (go_quiet (fail))
          exact ⟨⟨k + 1, by omega, by go_num, ⟨hbr.os, hbr.tape, hbr.output, hbr.size, hbr.block⟩, HE2⟩, by simp [intOf]; omega⟩
        | false =>
          obtain rfl : R = false := by rw [HR.out]; exact HNE.out (fun h => by have := hqe.out.2 h; simp at this)
          clear HR HNE
          go_wp2_with (go_quiet (fail))
          go_ret
          exact ⟨rfl, ⟨hbr.os, hbr.tape, hbr.output, hbr.size, hbr.block⟩⟩
      · obtain rfl : k = l.length := by omega
        have dk : decide ((l.length : Int) < (l.length : Int)) = false := decide_eq_false (by omega)
        obtain rfl : R = true := by
          rw [HR.out]
          have := hE.out
          rw [List.take_length, HLEN.out, List.take_length] at this
          exact decide_eq_true this
        clear HR
        go_wp2_with fail
        go_ret
        exact ⟨rfl, hbr⟩
  · have dn : ((l.length : Int) != (m.length : Int)) = true := by simp; omega
    obtain rfl : R = false := by rw [hR]; exact pairs_len hlen
    clear hR
    go_enter Tryd.func14, Tryd.ntmps14
    go_wp2_with fail
    go_ret
    exact ⟨rfl, Below.refl _ _⟩
theorem psameT_any (A B : Option Addr) (c d : Nat) (l m : List TagV) (w : World) (hl : SeesT w A l) (hm : SeesT w B m) (h1 : l.length ≤ maxLen) (h2 : m.length ≤ maxLen) :
    Calls Tryd.prog 13 #[.slice A l.length c, .slice B m.length d] w fun e w' => e = .returned (.bool (sameT l m)) ∧ Below w.heap.size w w' := by
  have h := equalT_any A B c d l m w hl hm h1 h2
  generalize sameT l m = q at *
  clear hl hm
  go_enter Tryd.func13, Tryd.ntmps13
  go_wp2_with fail
  refine h.mono ?_
  rintro e w1 ⟨rfl, hb⟩
  go_wp2_with fail
  go_ret
  exact ⟨rfl, hb⟩
end Go.Proofs.YtlcbfikmljmlpaaDoor
