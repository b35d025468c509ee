/- Sound in memory; what is found by a function among channels and among samples. -/
import Derived.Test.YtfinefhebffpcaaPcmFits
import Derived.Test.YtfinefhebffpcaaRes
namespace Go.Proofs.Ytfinefhebffpcaa
set_option linter.unusedVariables false
open Go.RowKit
/-- a channel as it lies in memory -/
structure Chan where
  A : Option Addr
  c : Nat
  l : List Int
def Chan.v (x : Chan) : Value := .slice x.A x.l.length x.c
def SeesL (w : World) (A : Option Addr) (L : List Chan) : Prop := Sees w A (L.map Chan.v) ∧ ∀ x ∈ L, SeesI w x.A x.l ∧ x.l.length ≤ maxLen
theorem SeesL.below {w w' : World} {A : Option Addr} {L : List Chan} (h : SeesL w A L) (hb : Below w.heap.size w w') : SeesL w' A L :=
  ⟨Sees.below h.1 hb, fun x hx => ⟨(h.2 x hx).1.below hb, (h.2 x hx).2⟩⟩
theorem SeesL.at {w : World} {A : Option Addr} {L : List Chan} (h : SeesL w A L) {i : Nat} (hi : i < L.length) : ∃ a, A = some a ∧ w.cell? (a.add i) = some L[i].v :=
  h.1 i L[i].v (by rw [List.getElem?_map, List.getElem?_eq_getElem hi]; rfl)
def countL (L : List Chan) : Nat := match L with | [] => 0 | x :: _ => x.l.length
theorem add_zero (a : Addr) : a.add 0 = a := rfl
/-- sound that lies in a variable -/
def SndAt (w : World) (g : Nat) (ch bi ra : Int) (A : Option Addr) (n c : Nat) : Prop :=
  w.cell? ⟨g, 0, none⟩ = some (.int .i64 ch) ∧ w.cell? ⟨g, 1, none⟩ = some (.int .i64 bi) ∧ w.cell? ⟨g, 2, none⟩ = some (.int .i64 ra) ∧ w.cell? ⟨g, 3, none⟩ = some (.slice A n c)
theorem SndAt.below {w w' : World} {g : Nat} {ch bi ra : Int} {A : Option Addr} {n c : Nat} (h : SndAt w g ch bi ra A n c) (hb : Below w.heap.size w w') : SndAt w' g ch bi ra A n c :=
  ⟨keep1 hb h.1, keep1 hb h.2.1, keep1 hb h.2.2.1, keep1 hb h.2.2.2⟩
theorem SndAt.new (w : World) (ch bi ra : Int) (A : Option Addr) (n c : Nat) : SndAt (w.alloc (.cells #[.int .i64 ch, .int .i64 bi, .int .i64 ra, .slice A n c] 26)) w.heap.size ch bi ra A n c := by
  have h := heap_alloc_new w (.cells #[.int .i64 ch, .int .i64 bi, .int .i64 ra, .slice A n c] 26)
  refine ⟨?_, ?_, ?_, ?_⟩ <;> (rw [cell_of_row _ _ _ _ _ _ h]; rfl)
theorem below_box (w : World) (ch bi ra : Int) (A : Option Addr) (n c : Nat) : Below w.heap.size w (w.alloc (.cells #[.int .i64 ch, .int .i64 bi, .int .i64 ra, .slice A n c] 26)) := (Below.refl _ w).alloc (Nat.le_refl _) _
set_option maxHeartbeats 1000000 in
theorem count_any (ch bi ra : Int) (A : Option Addr) (c : Nat) (L : List Chan) (w : World) (h : SeesL w A L) :
    Calls Try.prog 14 #[.agg #[.int .i64 ch, .int .i64 bi, .int .i64 ra, .slice A L.length c]] w fun e w' => e = .returned (.int .i64 (countL L : Nat)) ∧ Below w.heap.size w w' := by
  have hb := below_box w ch bi ra A L.length c
  cases L with
  | nil =>
    go_enter Try.func14, Try.ntmps14
    go_wp2_with fail
    go_ret
    exact ⟨rfl, hb⟩
  | cons x L =>
    have hl := h.below hb
    obtain ⟨a, rfl, hc⟩ := hl.at (i := 0) (by simp)
    have hc0 : (w.alloc (.cells #[.int .i64 ch, .int .i64 bi, .int .i64 ra, .slice (some a) (x :: L).length c] 26)).cell? a = some (.slice x.A x.l.length x.c) := hc
    rw [show countL (x :: L) = x.l.length from rfl]
    have hn1 : 1 ≤ (x :: L).length := by simp
    clear hc hl h
    generalize (x :: L).length = n at *
    have d0 : decide ((n : Int) = 0) = false := decide_eq_false (by omega)
    go_enter Try.func14, Try.ntmps14
    go_wp2_with fail
    go_ret
    exact ⟨rfl, hb⟩
set_option maxHeartbeats 1000000 in
theorem rcount_any (ch bi ra : Int) (A : Option Addr) (c : Nat) (L : List Chan) (w : World) (h : SeesL w A L) :
    Calls Try.prog 15 #[.agg #[.int .i64 ch, .int .i64 bi, .int .i64 ra, .slice A L.length c]] w fun e w' => e = .returned (.int .i64 (countL L : Nat)) ∧ Below w.heap.size w w' := by
  have hb := below_box w ch bi ra A L.length c
  cases L with
  | nil =>
    go_enter Try.func15, Try.ntmps15
    go_wp2_with fail
    go_ret
    exact ⟨rfl, hb⟩
  | cons x L =>
    have hl := h.below hb
    obtain ⟨a, rfl, hc⟩ := hl.at (i := 0) (by simp)
    have hc0 : (w.alloc (.cells #[.int .i64 ch, .int .i64 bi, .int .i64 ra, .slice (some a) (x :: L).length c] 26)).cell? a = some (.slice x.A x.l.length x.c) := hc
    rw [show countL (x :: L) = x.l.length from rfl]
    have hn1 : 1 ≤ (x :: L).length := by simp
    clear hc hl h
    generalize (x :: L).length = n at *
    have d0 : decide ((n : Int) = 0) = false := decide_eq_false (by omega)
    go_enter Try.func15, Try.ntmps15
    go_wp2_with fail
    go_ret
    exact ⟨rfl, hb⟩
def FoundPost (w : World) (b : Bool) (e : Ending) (w' : World) : Prop := ∃ r : Int, e = .returned (.int .i64 r) ∧ decide (0 ≤ r) = b ∧ Below w.heap.size w w'
set_option maxHeartbeats 1000000 in
theorem findI_any (f : FuncId) (P : Value) (p : Int → Bool) (A : Option Addr) (c : Nat) (l : List Int) (w : World) (hl : SeesI w A l) (hlen : l.length ≤ 9223372036854775807)
    (hf : ∀ (args : Array Value) (W : World), (callFunc f args).run Try.prog W = .ok (.enter f args) W)
    (hcl : ∀ (W : World) (x : Int), Below w.heap.size w W → Calls Try.prog f #[.int .i64 x, P] W fun e w' => e = .returned (.bool (p x)) ∧ Below W.heap.size W w') :
    Calls Try.prog 55 #[.slice A l.length c, .func (.func f) #[] #[P]] w (FoundPost w (l.any p)) := by
  obtain ⟨R, hR⟩ : ∃ R, R = l.any p := ⟨_, rfl⟩
  rw [← hR]
  have HR := hid hR
  clear hR
  go_enter Try.func55, Try.ntmps55
  go_wp2
  go_loopw [8] (fun i wr => ∃ k : Nat, k ≤ l.length ∧ i = .int .i64 (k : Int) ∧ Below w.heap.size w wr ∧ Hid (R = (l.drop k).any p)) (fun i _ => l.length - (intOf i).toNat)
  case atStart => exact ⟨0, by omega, rfl, Below.refl _ _, hid HR.out⟩
  case round =>
    obtain ⟨k, hk, rfl, hb, hE⟩ := hrel
    by_cases hlt : k < l.length
    · have dk : decide ((k : Int) < (l.length : Int)) = true := decide_eq_true (by omega)
      obtain ⟨a, rfl, hc⟩ := (hl.below hb).at hlt
      have HS := hid (show (l.drop k).any p = (p l[k] || (l.drop (k + 1)).any p) by rw [List.drop_eq_getElem_cons hlt]; rfl)
      have hcall := hcl wr l[k] hb
      generalize l[k] = x at *
      cases hp : p x with
      | true =>
        rw [hp] at hcall
        go_wp2_with fail
        refine hcall.mono ?_
        rintro e w1 ⟨rfl, hb1⟩
        clear hcall
        go_wp2_with fail
        go_ret
        exact ⟨k, rfl, by rw [hE.out, HS.out, hp]; simp, hb.trans (hb1.mono hb.size)⟩
      | false =>
        rw [hp] at hcall
        go_wp2_with fail
        refine hcall.mono ?_
        rintro e w1 ⟨rfl, hb1⟩
        clear hcall
        go_wp2_with fail
        go_roundw
        case rel => exact ⟨k + 1, by omega, by go_num, hb.trans (hb1.mono hb.size), hid (by rw [hE.out, HS.out, hp]; rfl)⟩
        case measure => simp [intOf]; omega
    · obtain rfl : k = l.length := by omega
      have dk : decide ((l.length : Int) < (l.length : Int)) = false := decide_eq_false (by omega)
      go_wp2_with fail
      go_ret
      exact ⟨-1, rfl, by rw [hE.out, List.drop_length]; rfl, hb⟩
set_option maxHeartbeats 1000000 in
theorem hasI_any (f : FuncId) (P : Value) (p : Int → Bool) (A : Option Addr) (c : Nat) (l : List Int) (w : World) (hl : SeesI w A l) (hlen : l.length ≤ 9223372036854775807)
    (hf : ∀ (args : Array Value) (W : World), (callFunc f args).run Try.prog W = .ok (.enter f args) W)
    (hcl : ∀ (W : World) (x : Int), Below w.heap.size w W → Calls Try.prog f #[.int .i64 x, P] W fun e w' => e = .returned (.bool (p x)) ∧ Below W.heap.size W w') :
    Calls Try.prog 50 #[.slice A l.length c, .func (.func f) #[] #[P]] w fun e w' => e = .returned (.bool (l.any p)) ∧ Below w.heap.size w w' := by
  have h := findI_any f P p A c l w hl hlen hf hcl
  go_enter Try.func50, Try.ntmps50
  go_wp2_with fail
  refine h.mono ?_
  rintro e w1 ⟨r, rfl, hr, hb⟩
  have HR := hid hr
  clear hr h hcl hf
  go_wp2_with fail
  go_ret
  exact ⟨by rw [← HR.out]; rfl, hb⟩
set_option maxHeartbeats 1000000 in
theorem findL_any (f : FuncId) (P : Value) (p : Chan → Bool) (A : Option Addr) (c : Nat) (L : List Chan) (w : World) (hl : SeesL w A L) (hlen : L.length ≤ 9223372036854775807)
    (hf : ∀ (args : Array Value) (W : World), (callFunc f args).run Try.prog W = .ok (.enter f args) W)
    (hcl : ∀ (W : World) (x : Chan), x ∈ L → Below w.heap.size w W → Calls Try.prog f #[.slice x.A x.l.length x.c, P] W fun e w' => e = .returned (.bool (p x)) ∧ Below W.heap.size W w') :
    Calls Try.prog 49 #[.slice A L.length c, .func (.func f) #[] #[P]] w (FoundPost w (L.any p)) := by
  obtain ⟨R, hR⟩ : ∃ R, R = L.any p := ⟨_, rfl⟩
  rw [← hR]
  have HR := hid hR
  clear hR
  go_enter Try.func49, Try.ntmps49
  go_wp2
  go_loopw [8] (fun i wr => ∃ k : Nat, k ≤ L.length ∧ i = .int .i64 (k : Int) ∧ Below w.heap.size w wr ∧ Hid (R = (L.drop k).any p)) (fun i _ => L.length - (intOf i).toNat)
  case atStart => exact ⟨0, by omega, rfl, Below.refl _ _, hid HR.out⟩
  case round =>
    obtain ⟨k, hk, rfl, hb, hE⟩ := hrel
    by_cases hlt : k < L.length
    · have dk : decide ((k : Int) < (L.length : Int)) = true := decide_eq_true (by omega)
      obtain ⟨a, rfl, hc⟩ := (hl.below hb).at hlt
      have HS := hid (show (L.drop k).any p = (p L[k] || (L.drop (k + 1)).any p) by rw [List.drop_eq_getElem_cons hlt]; rfl)
      have hcall := hcl wr L[k] (List.getElem_mem hlt) hb
      generalize L[k] = x at *
      have hc' : wr.cell? (a.add k) = some (.slice x.A x.l.length x.c) := hc
      clear hc
      cases hp : p x with
      | true =>
        rw [hp] at hcall
        go_wp2_with fail
        refine hcall.mono ?_
        rintro e w1 ⟨rfl, hb1⟩
        clear hcall
        go_wp2_with fail
        go_ret
        exact ⟨k, rfl, by rw [hE.out, HS.out, hp]; simp, hb.trans (hb1.mono hb.size)⟩
      | false =>
        rw [hp] at hcall
        go_wp2_with fail
        refine hcall.mono ?_
        rintro e w1 ⟨rfl, hb1⟩
        clear hcall
        go_wp2_with fail
        go_roundw
        case rel => exact ⟨k + 1, by omega, by go_num, hb.trans (hb1.mono hb.size), hid (by rw [hE.out, HS.out, hp]; rfl)⟩
        case measure => simp [intOf]; omega
    · obtain rfl : k = L.length := by omega
      have dk : decide ((L.length : Int) < (L.length : Int)) = false := decide_eq_false (by omega)
      go_wp2_with fail
      go_ret
      exact ⟨-1, rfl, by rw [hE.out, List.drop_length]; rfl, hb⟩
set_option maxHeartbeats 1000000 in
theorem hasL_any (f : FuncId) (P : Value) (p : Chan → Bool) (A : Option Addr) (c : Nat) (L : List Chan) (w : World) (hl : SeesL w A L) (hlen : L.length ≤ 9223372036854775807)
    (hf : ∀ (args : Array Value) (W : World), (callFunc f args).run Try.prog W = .ok (.enter f args) W)
    (hcl : ∀ (W : World) (x : Chan), x ∈ L → Below w.heap.size w W → Calls Try.prog f #[.slice x.A x.l.length x.c, P] W fun e w' => e = .returned (.bool (p x)) ∧ Below W.heap.size W w') :
    Calls Try.prog 33 #[.slice A L.length c, .func (.func f) #[] #[P]] w fun e w' => e = .returned (.bool (L.any p)) ∧ Below w.heap.size w w' := by
  have h := findL_any f P p A c L w hl hlen hf hcl
  go_enter Try.func33, Try.ntmps33
  go_wp2_with fail
  refine h.mono ?_
  rintro e w1 ⟨r, rfl, hr, hb⟩
  have HR := hid hr
  clear hr h hcl hf
  go_wp2_with fail
  go_ret
  exact ⟨by rw [← HR.out]; rfl, hb⟩
end Go.Proofs.Ytfinefhebffpcaa
