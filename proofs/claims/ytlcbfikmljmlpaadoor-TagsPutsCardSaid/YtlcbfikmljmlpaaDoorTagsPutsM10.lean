/- Tags compared: the program's and the reference's. -/
import Derived.Test.YtlcbfikmljmlpaaDoorTagsPutsM5
import Derived.BigQuiet
import Derived.Laws.StructEq
import Derived.WalkSpells
import Derived.WalkLawsBesides
import Derived.Test.YtlcbfikmljmlpaaDoorTagsPutsM2
import Derived.Test.YtlcbfikmljmlpaaDoorTagsPutsM9
namespace Go.Proofs.YtlcbfikmljmlpaaDoor
set_option linter.unusedVariables false
open Go.RowKit
def sameTag (x y : TagV) : Bool := (x.k.toList == y.k.toList) && (x.v.toList == y.v.toList)
theorem eq_tag (x y : TagV) (w : World) :
    (Op.equalIn 10000 30 (.agg #[.string x.k, .string x.v]) (.agg #[.string y.k, .string y.v])).run Tryd.prog w = .ok (sameTag x y) w := by
  have u3 := Tryd.underlying9
  have a3 := Tryd.isAgg9
  have z3 := Tryd.sizeOf9
  have hS : Tryd.prog.underlying 30 = some (.struct (Tryd.prog.fieldsOf 30)) := by kernel_rfl
  have hp : Tryd.prog.stoodInHeld 30 = false := by kernel_rfl
  unfold sameTag
  generalize hb : (x.k.toList == y.k.toList) = b
  generalize hd : (x.v.toList == y.v.toList) = d
  rw [show (10000 : Nat) = 9999 + 1 from rfl, run_equalIn_agg w 9999 30 _ _ hS hp]
  simp only [Program.fieldsOf, Tryd.underlying30]
  cases b <;> cases d <;> go_simp
def pairs (l : List TagV) : List (ByteArray × ByteArray) := l.map fun t => (t.k, t.v)
def sameT (l m : List TagV) : Bool := decide (pairs l = pairs m)
theorem sameTag_iff (x y : TagV) : sameTag x y = true ↔ (x.k, x.v) = (y.k, y.v) := by
  unfold sameTag
  rw [list_eql, list_eql, Bool.and_eq_true, decide_eq_true_iff, decide_eq_true_iff, Prod.mk.injEq]
theorem pairs_succ (l : List TagV) (k : Nat) (h : k < l.length) : pairs (l.take (k + 1)) = pairs (l.take k) ++ [(l[k].k, l[k].v)] := by
  unfold pairs
  rw [List.take_succ_eq_append_getElem h, List.map_append]
  rfl
theorem pairs_ne {l m : List TagV} {k : Nat} (h : k < l.length) (h' : k < m.length) (hne : (l[k].k, l[k].v) ≠ (m[k].k, m[k].v)) : sameT l m = false := by
  apply decide_eq_false
  intro he
  apply hne
  have h1 : (pairs l)[k]? = (pairs m)[k]? := by rw [he]
  unfold pairs at h1
  rw [List.getElem?_map, List.getElem?_map, List.getElem?_eq_getElem h, List.getElem?_eq_getElem h'] at h1
  simpa using h1
theorem pairs_len {l m : List TagV} (h : l.length ≠ m.length) : sameT l m = false := by
  apply decide_eq_false
  intro he
  apply h
  have := congrArg List.length he
  simpa [pairs] using this
theorem pairs_inj : ∀ {l m : List TagV}, pairs l = pairs m → l = m
  | [], [], _ => rfl
  | [], _ :: _, h => by simp [pairs] at h
  | _ :: _, [], h => by simp [pairs] at h
  | ⟨a, b⟩ :: l, ⟨c, d⟩ :: m, h => by
    simp only [pairs, List.map_cons, List.cons.injEq, Prod.mk.injEq] at h
    obtain ⟨⟨rfl, rfl⟩, h⟩ := h
    rw [pairs_inj h]
theorem sameT_refl (l : List TagV) : sameT l l = true := decide_eq_true rfl
theorem sameT_eq {l m : List TagV} (h : sameT l m = true) : l = m := pairs_inj (of_decide_eq_true h)
set_option maxRecDepth 20000 in
set_option maxHeartbeats 4000000 in
theorem equalT_any (A B : Option Addr) (c d : Nat) (l m : List TagV) (w : World) (hl : SeesT w A l) (hm : SeesT w B m) (h1 : l.length ≤ maxLen) (h2 : m.length ≤ maxLen) :
    Calls Tryd.prog 36 #[.slice A l.length c, .slice B m.length d] w fun e w' => e = .returned (.bool (sameT l m)) ∧ Below w.heap.size w w' := by
  unfold maxLen at h1 h2
  obtain ⟨R, hR⟩ : ∃ R, R = sameT l m := ⟨_, rfl⟩
  rw [← hR]
  by_cases hlen : l.length = m.length
  · have dn : ((l.length : Int) != (m.length : Int)) = false := by simp [hlen]
    have HR := hid hR
    have HLEN := hid hlen
    clear hR hlen
    go_enter Tryd.func36, Tryd.ntmps36
    go_wp2_with fail
    go_loopw [13] (fun i wr => ∃ k : Nat, k ≤ l.length ∧ i = .int .i64 (k : Int) ∧ Below w.heap.size w wr ∧ Hid (pairs (l.take k) = pairs (m.take k))) (fun i _ => l.length - (intOf i).toNat)
    case atStart => exact ⟨0, by omega, rfl, Below.refl _ _, hid rfl⟩
    case round =>
      obtain ⟨k, hk, rfl, hbr, hE⟩ := hrel
      by_cases hlt : k < l.length
      · have dk : decide ((k : Int) < (l.length : Int)) = true := decide_eq_true (by omega)
        have hltm : k < m.length := by rw [← HLEN.out]; exact hlt
        have dkl : (k : Int) < (l.length : Int) := by omega
        have dkm : (k : Int) < (m.length : Int) := by omega
        obtain ⟨a, rfl, x1, x2⟩ := (hl.below hbr).at hlt
        obtain ⟨b, rfl, y1, y2⟩ := (hm.below hbr).at hltm
        have HS1 := hid (pairs_succ l k hlt)
        have HS2 := hid (pairs_succ m k hltm)
        have HNE := hid (fun h => pairs_ne hlt hltm h)
        have hq := eq_tag l[k] m[k]
        have hqe := hid (sameTag_iff l[k] m[k])
        generalize l[k] = x at *
        generalize m[k] = y at *
        obtain ⟨xk, xv⟩ := x
        obtain ⟨yk, yv⟩ := y
        simp only at x1 x2 y1 y2 hq
        generalize sameTag ⟨xk, xv⟩ ⟨yk, yv⟩ = q at *
        clear hl hm
        cases q with
        | true =>
          have HE2 := hid (show pairs (l.take (k + 1)) = pairs (m.take (k + 1)) by rw [HS1.out, HS2.out, hE.out, hqe.out.1 rfl])
          go_wp2_with (go_quiet (fail))
          exact ⟨⟨k + 1, by omega, by go_num, ⟨hbr.os, hbr.tape, hbr.output, hbr.size, hbr.block⟩, HE2⟩, by simp [intOf]; omega⟩
        | false =>
          obtain rfl : R = false := by rw [HR.out]; exact HNE.out (fun h => by have := hqe.out.2 h; simp at this)
          clear HR HNE
          go_wp2_with (go_quiet (fail))
          go_ret
          exact ⟨rfl, ⟨hbr.os, hbr.tape, hbr.output, hbr.size, hbr.block⟩⟩
      · obtain rfl : k = l.length := by omega
        have dk : decide ((l.length : Int) < (l.length : Int)) = false := decide_eq_false (by omega)
        obtain rfl : R = true := by
          rw [HR.out]
          have := hE.out
          rw [List.take_length, HLEN.out, List.take_length] at this
          exact decide_eq_true this
        clear HR
        go_wp2_with fail
        go_ret
        exact ⟨rfl, hbr⟩
  · have dn : ((l.length : Int) != (m.length : Int)) = true := by simp; omega
    obtain rfl : R = false := by rw [hR]; exact pairs_len hlen
    clear hR
    go_enter Tryd.func36, Tryd.ntmps36
    go_wp2_with fail
    go_ret
    exact ⟨rfl, Below.refl _ _⟩
set_option maxRecDepth 20000 in
set_option maxHeartbeats 4000000 in
theorem rsameT_any (A B : Option Addr) (c d : Nat) (l m : List TagV) (w : World) (hl : SeesT w A l) (hm : SeesT w B m) (h1 : l.length ≤ maxLen) (h2 : m.length ≤ maxLen) :
    Calls Tryd.prog 14 #[.slice A l.length c, .slice B m.length d] w fun e w' => e = .returned (.bool (sameT l m)) ∧ Below w.heap.size w w' := by
  unfold maxLen at h1 h2
  obtain ⟨R, hR⟩ : ∃ R, R = sameT l m := ⟨_, rfl⟩
  rw [← hR]
  by_cases hlen : l.length = m.length
  · have dn : ((l.length : Int) != (m.length : Int)) = false := by simp [hlen]
    have HR := hid hR
    have HLEN := hid hlen
    clear hR hlen
    go_enter Tryd.func14, Tryd.ntmps14
    go_wp2_with fail
    go_loopw [5] (fun i wr => ∃ k : Nat, k ≤ l.length ∧ i = .int .i64 (k : Int) ∧ Below w.heap.size w wr ∧ Hid (pairs (l.take k) = pairs (m.take k))) (fun i _ => l.length - (intOf i).toNat)
    case atStart => exact ⟨0, by omega, rfl, Below.refl _ _, hid rfl⟩
    case round =>
      obtain ⟨k, hk, rfl, hbr, hE⟩ := hrel
      by_cases hlt : k < l.length
      · have dk : decide ((k : Int) < (l.length : Int)) = true := decide_eq_true (by omega)
        have hltm : k < m.length := by rw [← HLEN.out]; exact hlt
        have dkl : (k : Int) < (l.length : Int) := by omega
        have dkm : (k : Int) < (m.length : Int) := by omega
        obtain ⟨a, rfl, x1, x2⟩ := (hl.below hbr).at hlt
        obtain ⟨b, rfl, y1, y2⟩ := (hm.below hbr).at hltm
        have HS1 := hid (pairs_succ l k hlt)
        have HS2 := hid (pairs_succ m k hltm)
        have HNE := hid (fun h => pairs_ne hlt hltm h)
        have hq := eq_tag l[k] m[k]
        have hqe := hid (sameTag_iff l[k] m[k])
        generalize l[k] = x at *
        generalize m[k] = y at *
        obtain ⟨xk, xv⟩ := x
        obtain ⟨yk, yv⟩ := y
        simp only at x1 x2 y1 y2 hq
        generalize sameTag ⟨xk, xv⟩ ⟨yk, yv⟩ = q at *
        clear hl hm
        cases q with
        | true =>
          have HE2 := hid (show pairs (l.take (k + 1)) = pairs (m.take (k + 1)) by rw [HS1.out, HS2.out, hE.out, hqe.out.1 rfl])
          go_wp2_with (go_quiet (fail))
          exact ⟨⟨k + 1, by omega, by go_num, ⟨hbr.os, hbr.tape, hbr.output, hbr.size, hbr.block⟩, HE2⟩, by simp [intOf]; omega⟩
        | false =>
          obtain rfl : R = false := by rw [HR.out]; exact HNE.out (fun h => by have := hqe.out.2 h; simp at this)
          clear HR HNE
          go_wp2_with (go_quiet (fail))
          go_ret
          exact ⟨rfl, ⟨hbr.os, hbr.tape, hbr.output, hbr.size, hbr.block⟩⟩
      · obtain rfl : k = l.length := by omega
        have dk : decide ((l.length : Int) < (l.length : Int)) = false := decide_eq_false (by omega)
        obtain rfl : R = true := by
          rw [HR.out]
          have := hE.out
          rw [List.take_length, HLEN.out, List.take_length] at this
          exact decide_eq_true this
        clear HR
        go_wp2_with fail
        go_ret
        exact ⟨rfl, hbr⟩
  · have dn : ((l.length : Int) != (m.length : Int)) = true := by simp; omega
    obtain rfl : R = false := by rw [hR]; exact pairs_len hlen
    clear hR
    go_enter Tryd.func14, Tryd.ntmps14
    go_wp2_with fail
    go_ret
    exact ⟨rfl, Below.refl _ _⟩
theorem psameT_any (A B : Option Addr) (c d : Nat) (l m : List TagV) (w : World) (hl : SeesT w A l) (hm : SeesT w B m) (h1 : l.length ≤ maxLen) (h2 : m.length ≤ maxLen) :
    Calls Tryd.prog 13 #[.slice A l.length c, .slice B m.length d] w fun e w' => e = .returned (.bool (sameT l m)) ∧ Below w.heap.size w w' := by
  have h := equalT_any A B c d l m w hl hm h1 h2
  generalize sameT l m = q at *
  clear hl hm
  go_enter Tryd.func13, Tryd.ntmps13
  go_wp2_with fail
  refine h.mono ?_
  rintro e w1 ⟨rfl, hb⟩
  go_wp2_with fail
  go_ret
  exact ⟨rfl, hb⟩
end Go.Proofs.YtlcbfikmljmlpaaDoor
/- Are tags few, and short? -/
namespace Go.Proofs.YtlcbfikmljmlpaaDoor
set_option linter.unusedVariables false
open Go.RowKit
/-- what Few says when it lets tags through -/
def FewT (w : World) (l : List TagV) (e : Ending) (w' : World) : Prop := ∃ b, e = .returned (.bool b) ∧ w = w' ∧ (b = true → l.length ≤ 70 ∧ ∀ x ∈ l, x.k.size ≤ 100 ∧ x.v.size ≤ 1500)
set_option maxHeartbeats 1000000 in
theorem fewT_any (A : Option Addr) (c : Nat) (l : List TagV) (w : World) (hl : SeesT w A l) (hc : l.length ≤ c ∧ c ≤ maxLen) :
    Calls Tryd.prog 9 #[.slice A l.length c] w (FewT w l) := by
  unfold maxLen at hc
  go_enter Tryd.func9, Tryd.ntmps9
  go_wp2_with fail
  go_loop [3] (fun i => ∃ k : Nat, k ≤ l.length ∧ k ≤ 100 ∧ i = .int .i64 k ∧ ∀ x ∈ l.take k, x.k.size ≤ 100 ∧ x.v.size ≤ 1500) (fun i => l.length - (intOf i).toNat)
  case atStart => exact ⟨0, by omega, by omega, rfl, by simp⟩
  case round =>
    obtain ⟨k, hk, hk60, rfl, hall⟩ := hrel
    by_cases hlt : k < l.length
    · have d1 : decide ((k : Int) < (l.length : Int)) = true := decide_eq_true (by omega)
      have dkl : (k : Int) < (l.length : Int) := by omega
      by_cases hlt6 : k < 100
      · have d2 : decide ((k : Int) < 100) = true := decide_eq_true (by omega)
        obtain ⟨a, rfl, x1, x2⟩ := hl.at hlt
        by_cases hs : 100 < l[k].k.size
        · have d3 : decide (100 < (l[k].k.size : Int)) = true := decide_eq_true (by omega)
          clear hall
          go_wp2_with fail
          go_ret
          exact ⟨false, rfl, rfl, fun h => by cases h⟩
        · have d3 : decide (100 < (l[k].k.size : Int)) = false := decide_eq_false (by omega)
          by_cases hv : 1500 < l[k].v.size
          · have d4 : decide (1500 < (l[k].v.size : Int)) = true := decide_eq_true (by omega)
            clear hall
            go_wp2_with fail
            go_ret
            exact ⟨false, rfl, rfl, fun h => by cases h⟩
          · have d4 : decide (1500 < (l[k].v.size : Int)) = false := decide_eq_false (by omega)
            go_wp2_with fail
            refine ⟨⟨k + 1, hlt, hlt6, by go_num, fun x hx => ?_⟩, by simp [intOf]; omega⟩
            rw [List.take_succ_eq_append_getElem hlt, List.mem_append] at hx
            rcases hx with h | h
            · exact hall x h
            · rw [List.mem_singleton.1 h]; omega
      · have d2 : decide ((k : Int) < 100) = false := decide_eq_false (by omega)
        have d4 : decide ((l.length : Int) ≤ 70) = false := decide_eq_false (by omega)
        go_wp2_with fail
        go_ret
        exact ⟨_, rfl, rfl, fun h => by cases h⟩
    · obtain rfl : k = l.length := by omega
      have d1 : decide ((l.length : Int) < (l.length : Int)) = false := decide_eq_false (by omega)
      rw [List.take_length] at hall
      by_cases h5 : l.length ≤ 70
      · have d4 : decide ((l.length : Int) ≤ 70) = true := decide_eq_true (by omega)
        go_wp2_with fail
        go_ret
        exact ⟨_, rfl, rfl, fun h => ⟨h5, hall⟩⟩
      · have d4 : decide ((l.length : Int) ≤ 70) = false := decide_eq_false (by omega)
        go_wp2_with fail
        go_ret
        exact ⟨_, rfl, rfl, fun h => by cases h⟩
end Go.Proofs.YtlcbfikmljmlpaaDoor
/- The walk of TagsCheck. -/
namespace Go.Proofs.YtlcbfikmljmlpaaDoor
set_option linter.unusedVariables false
open Go.RowKit
theorem brief_of {l : List TagV} (h : ∀ x ∈ l, x.k.size ≤ 100 ∧ x.v.size ≤ 1500) : Brief l := fun x hx => by have := h x hx; omega
namespace tagsCheck
set_option maxRecDepth 20000 in
set_option maxHeartbeats 4000000 in
theorem walk (A : Option Addr) (c : Nat) (l : List TagV) (B : Option Addr) (d : Nat) (m : List TagV) (w : World) (h : SeesT w A l ∧ l.length ≤ c ∧ c ≤ maxLen) (h' : SeesT w B m ∧ m.length ≤ d ∧ d ≤ maxLen) (hT : Tabs w) :
    Calls Tryd.prog 3 #[.slice A l.length c, .slice B m.length d] w fun e w' => e = .returned (.bool true) ∧ Below w.heap.size w w' := by
  obtain ⟨hl, hlc, hc⟩ := h
  obtain ⟨hm, hmc, hd⟩ := h'
  have hK := hid known_any
  go_enter Tryd.func3, Tryd.ntmps3
  go_wp2_with fail
  refine (fewT_any A c l w hl ⟨hlc, hc⟩).mono ?_
  rintro e w1 ⟨b, rfl, rfl, hfl⟩
  cases b with
  | false =>
    clear hfl hl hm
    go_wp2_with fail
    refine (hK.out _).mono ?_
    rintro e w1 ⟨rfl, hb⟩
    go_wp2_with fail
    go_ret
    exact ⟨rfl, hb⟩
  | true =>
    obtain ⟨n1, s1⟩ := hfl rfl
    clear hfl
    go_wp2_with fail
    refine (fewT_any B d m w hm ⟨hmc, hd⟩).mono ?_
    rintro e w1 ⟨b, rfl, rfl, hfm⟩
    cases b with
    | false =>
      clear hfm hl hm
      go_wp2_with fail
      refine (hK.out _).mono ?_
      rintro e w1 ⟨rfl, hb⟩
      go_wp2_with fail
      go_ret
      exact ⟨rfl, hb⟩
    | true =>
      clear hfm
      have hlm : l.length ≤ maxLen := Nat.le_trans hlc hc
      have hmm : m.length ≤ maxLen := Nat.le_trans hmc hd
      have hBr := brief_of s1
      clear s1
      go_wp2_with fail
      refine (check_any A c l w hl hlc hlm hBr hT).mono ?_
      rintro e w1 ⟨rfl, hb1⟩
      have hr := rcheck_any A c l w1 (hl.below hb1) hlc hlm hBr
      generalize checkT l = z at *
      obtain ⟨z, y⟩ := z
      simp only at hr
      go_wp2_with fail
      refine hr.mono ?_
      rintro e w2 ⟨rfl, hb2⟩
      clear hr
      replace hb2 := hb1.trans (hb2.mono hb1.size)
      clear hb1
      have p1 := psameT_any A B c d l m w2 (hl.below hb2) (hm.below hb2) hlm hmm
      have p2 := hid (fun W => rsameT_any A B c d l m W)
      have p3 := hid (fun W => psameT_any A A c c l l W)
      rw [sameT_refl] at p3
      generalize sameT l m = q at *
      go_wp2_with fail
      refine p1.mono ?_
      rintro e w3 ⟨rfl, hb3⟩
      clear p1
      replace hb3 := hb2.trans (hb3.mono hb2.size)
      go_wp2_with fail
      refine (p2.out w3 (hl.below hb3) (hm.below hb3) hlm hmm).mono ?_
      rintro e w4 ⟨rfl, hb4⟩
      replace hb4 := hb3.trans (hb4.mono hb3.size)
      go_wp2_with fail
      refine (p3.out w4 (hl.below hb4) (hl.below hb4) hlm hlm).mono ?_
      rintro e w5 ⟨rfl, hb5⟩
      replace hb5 := hb4.trans (hb5.mono hb4.size)
      clear p2 p3 hl hm
      go_wp2_with fail
      refine (hK.out _).mono ?_
      rintro e w6 ⟨rfl, hb6⟩
      go_wp2_with fail
      go_ret
      exact ⟨rfl, hb5.trans (hb6.mono hb5.size)⟩
end tagsCheck
end Go.Proofs.YtlcbfikmljmlpaaDoor
/- What Check lets through. -/
namespace Go.Proofs.YtlcbfikmljmlpaaDoor
set_option linter.unusedVariables false
theorem checkR_ok (l : List TagV) : ∀ (r : List TagV) (i : Nat), (checkR l r i).2 = 0 → ∀ j, ∀ h : j < r.length, badAt l r[j].k (i + j) = false ∧ valB r[j].v = true
  | [], _, _, j, h => by simp at h
  | x :: r, i, hc, j, h => by
    unfold checkR at hc
    cases hb : badAt l x.k i with
    | true => rw [if_pos hb] at hc; exact absurd (show (40 : Int) = 0 from hc) (by decide)
    | false =>
      rw [if_neg (by rw [hb]; simp)] at hc
      cases hv : valB x.v with
      | false => rw [if_pos hv] at hc; exact absurd (show (41 : Int) = 0 from hc) (by decide)
      | true =>
        rw [if_neg (by rw [hv]; simp)] at hc
        rcases j with _ | j
        · exact ⟨hb, hv⟩
        · have := checkR_ok l r (i + 1) hc j (by simpa using h)
          rw [show i + 1 + j = i + (j + 1) by omega] at this
          exact this
theorem checkT_ok {l : List TagV} (h : (checkT l).2 = 0) : l.length ≤ 64 ∧ ∀ j, ∀ h : j < l.length, badAt l l[j].k j = false ∧ valB l[j].v = true := by
  unfold checkT at h
  by_cases h64 : 64 < l.length
  · rw [if_pos h64] at h; exact absurd h (by decide)
  · rw [if_neg h64] at h
    refine ⟨by omega, fun j hj => ?_⟩
    have := checkR_ok l l 0 h j hj
    rwa [Nat.zero_add] at this
end Go.Proofs.YtlcbfikmljmlpaaDoor
