/- The maker: its words and the contract of U. -/
import Derived.Test.YtkmhmehofipehaaGreatDoorProg
import Derived.Test.YtkmhmehofipehaaGreatDoorPz1
import Derived.WalkSpells
import Derived.WalkLawsBesides
import Derived.Deep.QuietTactic
import Derived.BigQuiet
import Derived.Deep.RegionHeld3
namespace Go.Proofs.YtkmhmehofipehaaGreatDoor
set_option linter.unusedVariables false
open Go.RowKit
theorem elB : Elem Tryz.prog 22 5 1 1 := Elem.mk' Tryz.underlying22 (z := .int .u8 0) (by kernel_rfl) rfl (by omega)
/-- w' is w but for the blocks of R, and new ones -/
structure But (R : Nat → Prop) (w w' : World) : Prop where
  os : w'.os = w.os
  tape : w'.tape = w.tape
  output : w'.output = w.output
  size : w.heap.size ≤ w'.heap.size
  block : ∀ b, b < w.heap.size → ¬ R b → w'.heap[b]? = w.heap[b]?
theorem But.refl (R : Nat → Prop) (w : World) : But R w w := ⟨rfl, rfl, rfl, Nat.le_refl _, fun _ _ _ => rfl⟩
theorem But.trans {R R' : Nat → Prop} {a b c : World} (h : But R a b) (k : But R' b c) (hR : ∀ n, R' n → R n ∨ a.heap.size ≤ n) : But R a c :=
  ⟨k.os.trans h.os, k.tape.trans h.tape, k.output.trans h.output, Nat.le_trans h.size k.size, fun n hn hr => (k.block n (Nat.lt_of_lt_of_le hn h.size) (fun h' => by
    rcases hR n h' with h1 | h1
    · exact hr h1
    · omega)).trans (h.block n hn hr)⟩
theorem But.of_below {R : Nat → Prop} {w w' : World} (h : Below w.heap.size w w') : But R w w' := ⟨h.os, h.tape, h.output, h.size, fun n hn _ => h.block n hn⟩
theorem But.below {R : Nat → Prop} {B : Nat} {w0 w w' : World} (hb : Below B w0 w) (h : But R w w') (hR : ∀ n, R n → B ≤ n) (hB : B ≤ w.heap.size) : Below B w0 w' :=
  ⟨h.os.trans hb.os, h.tape.trans hb.tape, h.output.trans hb.output, Nat.le_trans hb.size h.size, fun n hn => (h.block n (by omega) (fun h' => by have := hR n h'; omega)).trans (hb.block n hn)⟩
def Off (R : Nat → Prop) (A : Option Addr) : Prop := ∀ a, A = some a → ¬ R a.block
theorem Sees.but {R : Nat → Prop} {w w' : World} {A : Option Addr} {xs : List Value} (h : Sees w A xs) (hb : But R w w') (ho : Off R A) : Sees w' A xs := by
  intro i v hv
  obtain ⟨a, ha, hc⟩ := h i v hv
  have hlt := block_lt_of_cell hc
  rw [addr_block] at hlt
  exact ⟨a, ha, (World.cell?_of_block (w := w) (by rw [addr_block]; exact hb.block _ hlt (ho a ha))).trans hc⟩
/-- block g is a maker with this error and these bytes; its memory lies in R -/
def Mk (w : World) (g : Nat) (R : Nat → Prop) (err : Int) (l : List UInt8) : Prop :=
  ∃ (A : Option Addr) (c : Nat), w.heap[g]? = some (.cells #[.int .i64 err, .slice A l.length c] 116 (0, 0)) ∧ w.ownsRow 0 5 1 (.slice A l.length c) l.length (l.map byteV) ∧ R g ∧ (∀ a, A = some a → R a.block) ∧ (∀ b, R b → b < w.heap.size)
theorem Mk.but {w w' : World} {g : Nat} {R S : Nat → Prop} {err : Int} {l : List UInt8} (h : Mk w g R err l) (hb : But S w w') (hS : ∀ b, S b → ¬ R b) : Mk w' g R err l := by
  obtain ⟨A, c, hg, ho, hr, ha, hz⟩ := h
  have hlt := (Array.getElem?_eq_some_iff.1 hg).1
  refine ⟨A, c, (hb.block g hlt (fun h => hS g h hr)).trans hg, ?_, hr, ha, fun b hR => Nat.lt_of_lt_of_le (hz b hR) hb.size⟩
  refine ⟨ho.1, ?_⟩
  rcases ho.2 with h0 | ⟨g', cap, cur, hv, h1, h2, h3⟩
  · exact .inl h0
  · refine .inr ⟨g', cap, cur, hv, h1, ?_, h3⟩
    injection hv with hA _ _
    exact (hb.block g' (Array.getElem?_eq_some_iff.1 h2).1 (fun h => hS g' h (ha _ hA))).trans h2
theorem Mk.lt {w : World} {g : Nat} {R : Nat → Prop} {err : Int} {l : List UInt8} (h : Mk w g R err l) : g < w.heap.size := by
  obtain ⟨A, c, hg, _⟩ := h
  exact (Array.getElem?_eq_some_iff.1 hg).1
theorem Mk.below {w w' : World} {g : Nat} {R : Nat → Prop} {err : Int} {l : List UInt8} (h : Mk w g R err l) (hb : Below w.heap.size w w') : Mk w' g R err l := by
  exact h.but (S := fun _ => False) (But.of_below hb) (fun _ h => h.elim)
/-- behind a call on a maker -/
def MkPost (w : World) (g : Nat) (R : Nat → Prop) (s : Int × List UInt8) (e : Ending) (w' : World) : Prop :=
  e = .returned (.tuple #[]) ∧ ∃ R', Mk w' g R' s.1 s.2 ∧ But R w w' ∧ ∀ b, R' b → R b ∨ w.heap.size ≤ b
/-- the bytes of a number, the lowest first -/
def bytesLE (v n : Nat) : List UInt8 := (List.range n).map fun i => UInt8.ofNat (v / 256 ^ i % 256)
theorem bytesLE_snoc (v n : Nat) : bytesLE v (n + 1) = bytesLE v n ++ [UInt8.ofNat (v / 256 ^ n % 256)] := by
  unfold bytesLE; rw [List.range_succ, List.map_append]; rfl
theorem bytesLE_length (v n : Nat) : (bytesLE v n).length = n := by simp [bytesLE]
def putU (s : Int × List UInt8) (v : Nat) (n : Int) : Int × List UInt8 :=
  if s.1 ≠ 0 then s else if n < 1 ∨ 8 < n then (1, s.2) else if n < 8 ∧ 256 ^ n.toNat ≤ v then (3, s.2) else (0, s.2 ++ bytesLE v n.toNat)
theorem Mk.cell0 {w : World} {g : Nat} {R : Nat → Prop} {err : Int} {l : List UInt8} (h : Mk w g R err l) : w.cell? ⟨g, 0, none⟩ = some (.int .i64 err) := by
  obtain ⟨A, c, hg, _⟩ := h
  rw [cell_of_row _ _ _ _ _ _ hg]; rfl
theorem Mk.fr {w : World} {g : Nat} {R : Nat → Prop} {err : Int} {l : List UInt8} (h : Mk w g R err l) (i : Nat) : w.frozen? ⟨g, i, none⟩ = false := by
  obtain ⟨A, c, hg, _⟩ := h
  exact frozen_of_row _ _ _ _ _ hg
theorem Mk.err {w : World} {g : Nat} {R : Nat → Prop} {err : Int} {l : List UInt8} (h : Mk w g R err l) (e : Int) : Mk (w.setCell ⟨g, 0, none⟩ (.int .i64 e)) g R e l ∧ But R w (w.setCell ⟨g, 0, none⟩ (.int .i64 e)) := by
  obtain ⟨A, c, hg, ho, hr, ha, hz⟩ := h
  have hne : (Value.slice A l.length c).ownBlock ≠ some g := own_other ho hg (by decide)
  refine ⟨⟨A, c, heap_setCell_same w g 0 _ _ _ hg, ?_, hr, ha, fun b hR => by simpa [World.setCell] using hz b hR⟩, ⟨rfl, rfl, rfl, by simp [World.setCell], fun b _ hb => heap_setCell_other w _ b _ (fun h => hb (by rw [h]; exact hr))⟩⟩
  refine ⟨ho.1, ?_⟩
  rcases ho.2 with h0 | ⟨g', cap, cur, hv, h1, h2, h3⟩
  · exact .inl h0
  · refine .inr ⟨g', cap, cur, hv, h1, ?_, h3⟩
    refine (heap_setCell_other w _ g' _ ?_).trans h2
    intro hgg
    rw [hv] at hne
    exact hne (by simpa [Value.ownBlock] using hgg)
set_option maxHeartbeats 400000 in
theorem fail_ok (g : Nat) (e : Int) (w : World) (hc0 : w.cell? ⟨g, 0, none⟩ = some (.int .i64 0)) (hf0 : w.frozen? ⟨g, 0, none⟩ = false) :
    Calls Tryz.prog 79 #[.pointer (some ⟨g, 0, none⟩), .int .i64 e] w fun x w' => x = .returned (.tuple #[]) ∧ w.setCell ⟨g, 0, none⟩ (.int .i64 e) = w' := by
  go_enter Tryz.func79, Tryz.ntmps79
  go_wp2
  go_end0
  exact ⟨rfl, rfl⟩
set_option maxHeartbeats 400000 in
theorem fine_is (g : Nat) (err : Int) (b : Bool) (w : World) (hc0 : w.cell? ⟨g, 0, none⟩ = some (.int .i64 err)) (h : (err == 0) = b) :
    Calls Tryz.prog 80 #[.pointer (some ⟨g, 0, none⟩)] w fun x w' => x = .returned (.bool b) ∧ w = w' := by
  go_enter Tryz.func80, Tryz.ntmps80
  go_wp2
  go_ret
  exact ⟨rfl, rfl⟩
set_option maxHeartbeats 400000 in
theorem mready_is (g : Nat) (err : Int) (b : Bool) (w : World) (hc0 : w.cell? ⟨g, 0, none⟩ = some (.int .i64 err)) (h : (err == 0) = b) :
    Calls Tryz.prog 77 #[.pointer (some ⟨g, 0, none⟩)] w fun x w' => x = .returned (.bool b) ∧ w = w' := by
  go_enter Tryz.func77, Tryz.ntmps77
  go_wp2
  go_ret
  exact ⟨rfl, rfl⟩
set_option maxHeartbeats 400000 in
theorem may_yes (g : Nat) (n : Int) (w : World) (hc0 : w.cell? ⟨g, 0, none⟩ = some (.int .i64 0)) (h : 1 ≤ n ∧ n ≤ 8) :
    Calls Tryz.prog 78 #[.pointer (some ⟨g, 0, none⟩), .int .i64 n] w fun x w' => x = .returned (.bool true) ∧ w = w' := by
  have d1 : decide (n < 1) = false := by simp; omega
  have d2 : decide (8 < n) = false := by simp; omega
  go_enter Tryz.func78, Tryz.ntmps78
  go_wp2
  go_ret
  exact ⟨rfl, rfl⟩
set_option maxHeartbeats 400000 in
theorem may_no (g : Nat) (n : Int) (w : World) (hc0 : w.cell? ⟨g, 0, none⟩ = some (.int .i64 0)) (hf0 : w.frozen? ⟨g, 0, none⟩ = false) (h : n < 1 ∨ 8 < n) :
    Calls Tryz.prog 78 #[.pointer (some ⟨g, 0, none⟩), .int .i64 n] w fun x w' => x = .returned (.bool false) ∧ w.setCell ⟨g, 0, none⟩ (.int .i64 1) = w' := by
  have hc1 : (w.setCell ⟨g, 0, none⟩ (.int .i64 1)).cell? ⟨g, 0, none⟩ = some (.int .i64 1) := World.cell?_setCell_same' w _ _ (by rw [hc0]; rfl)
  by_cases h2 : n < 1
  · have d1 : decide (n < 1) = true := by simpa using h2
    go_enter Tryz.func78, Tryz.ntmps78
    go_wp2_with fail
    refine (fail_ok g 1 _ hc0 hf0).mono ?_
    rintro e w' ⟨rfl, rfl⟩
    go_wp2_with fail
    refine (fine_is g 1 false _ hc1 rfl).mono ?_
    rintro e w' ⟨rfl, rfl⟩
    go_wp2_with fail
    go_ret
    exact ⟨rfl, rfl⟩
  · have d1 : decide (n < 1) = false := by simpa using h2
    have d2 : decide (8 < n) = true := by simp; omega
    go_enter Tryz.func78, Tryz.ntmps78
    go_wp2_with fail
    refine (fail_ok g 1 _ hc0 hf0).mono ?_
    rintro e w' ⟨rfl, rfl⟩
    go_wp2_with fail
    refine (fine_is g 1 false _ hc1 rfl).mono ?_
    rintro e w' ⟨rfl, rfl⟩
    go_wp2_with fail
    go_ret
    exact ⟨rfl, rfl⟩
set_option maxHeartbeats 1000000 in
theorem makerU_bad (g : Nat) (R : Nat → Prop) (err : Int) (l : List UInt8) (v : Nat) (n : Int) (w : World) (hm : Mk w g R err l) (hv : v < 18446744073709551616) (hbad : err ≠ 0 ∨ n < 1 ∨ 8 < n ∨ (n < 8 ∧ 256 ^ n.toNat ≤ v)) :
    Calls Tryz.prog 50 #[.pointer (some ⟨g, 0, none⟩), .int .u64 (v : Int), .int .i64 n] w (MkPost w g R (putU (err, l) v n)) := by
  have hc0 := hm.cell0
  have hf0 := hm.fr 0
  by_cases h0 : err = 0
  · subst h0
    by_cases h1 : n < 1 ∨ 8 < n
    · have hp : putU (0, l) v n = (1, l) := by rw [putU, if_neg (by simp), if_pos h1]
      rw [hp]
      have hme := hm.err 1
      have hc0' : (w.setCell ⟨g, 0, none⟩ (.int .i64 1)).cell? ⟨g, 0, none⟩ = some (.int .i64 1) := hme.1.cell0
      by_cases h2 : n < 1
      · have d1 : decide (n < 1) = true := by simpa using h2
        go_enter Tryz.func50, Tryz.ntmps50
        go_wp2_with fail
        refine (mready_is g 0 true _ hc0 rfl).mono ?_
        rintro e w' ⟨rfl, rfl⟩
        go_wp2_with fail
        refine (may_no g n _ hc0 hf0 h1).mono ?_
        rintro e w' ⟨rfl, rfl⟩
        go_wp2_with fail
        exact bodyPost_ret (results_none rfl _ _ _) rfl ⟨rfl, R, hme.1, hme.2, fun b h => .inl h⟩
      · have d1 : decide (n < 1) = false := by simpa using h2
        have d2 : decide (8 < n) = true := by simp; omega
        go_enter Tryz.func50, Tryz.ntmps50
        go_wp2_with fail
        refine (mready_is g 0 true _ hc0 rfl).mono ?_
        rintro e w' ⟨rfl, rfl⟩
        go_wp2_with fail
        refine (may_no g n _ hc0 hf0 h1).mono ?_
        rintro e w' ⟨rfl, rfl⟩
        go_wp2_with fail
        exact bodyPost_ret (results_none rfl _ _ _) rfl ⟨rfl, R, hme.1, hme.2, fun b h => .inl h⟩
    · have h3 : n < 8 ∧ 256 ^ n.toNat ≤ v := by
        rcases hbad with h | h | h | h
        · exact absurd rfl h
        · exact absurd (.inl h) h1
        · exact absurd (.inr h) h1
        · exact h
      have hp : putU (0, l) v n = (3, l) := by rw [putU, if_neg (by simp), if_neg h1, if_pos h3]
      rw [hp]
      have hme := hm.err 3
      have d1 : decide (n < 1) = false := by simp; omega
      have d2 : decide (8 < n) = false := by simp; omega
      have d3 : n < 8 := h3.1
      obtain ⟨N, rfl⟩ := Int.eq_ofNat_of_zero_le (show 0 ≤ n by omega)
      have hsh : (v : Int) / 2 ^ (8 * N) ≠ 0 := by
        have e : (2 : Int) ^ (8 * N) = ((256 ^ N : Nat) : Int) := by rw [Int.natCast_pow]; rw [Int.pow_mul]; rfl
        rw [e]
        have h4 := h3.2
        simp only [Int.toNat_natCast] at h4
        have : 0 < v / 256 ^ N := Nat.div_pos h4 (Nat.pow_pos (by omega))
        intro h
        have h5 : ((v / 256 ^ N : Nat) : Int) = 0 := by rw [Int.natCast_ediv]; exact h
        omega
      have d4 : ((v : Int) / 2 ^ (8 * N) != 0) = true := by simpa using hsh
      clear hsh h3 hbad
      go_enter Tryz.func50, Tryz.ntmps50
      go_wp2_with fail
      refine (mready_is g 0 true _ hc0 rfl).mono ?_
      rintro e w' ⟨rfl, rfl⟩
      go_wp2_with fail
      refine (may_yes g _ _ hc0 (by omega)).mono ?_
      rintro e w' ⟨rfl, rfl⟩
      go_wp2_with fail
      refine (fail_ok g 3 _ hc0 hf0).mono ?_
      rintro e w' ⟨rfl, rfl⟩
      go_wp2_with fail
      exact bodyPost_ret (results_none rfl _ _ _) rfl ⟨rfl, R, hme.1, hme.2, fun b h => .inl h⟩
  · have hp : putU (err, l) v n = (err, l) := by rw [putU, if_pos h0]
    rw [hp]
    have d0 : (err == 0) = false := by simpa using h0
    go_enter Tryz.func50, Tryz.ntmps50
    go_wp2
    exact bodyPost_ret (results_none rfl _ _ _) rfl ⟨rfl, R, hm, But.refl _ _, fun b h => .inl h⟩
end Go.Proofs.YtkmhmehofipehaaGreatDoor
/- The maker: U, where all is well. -/
namespace Go.Proofs.YtkmhmehofipehaaGreatDoor
set_option linter.unusedVariables false
open Go.RowKit
/-- the maker's row has grown, and is stored back -/
theorem mk_grow {w w1 w' : World} {g : Nat} {R : Nat → Prop} {err : Int} {l l' : List UInt8} {A A' : Option Addr} {c c' : Nat}
    (hg : w.heap[g]? = some (.cells #[.int .i64 err, .slice A l.length c] 116 (0, 0))) (ho : w.ownsRow 0 5 1 (.slice A l.length c) l.length (l.map byteV)) (hr : R g) (ha : ∀ a, A = some a → R a.block) (hz : ∀ b, R b → b < w.heap.size)
    (h1 : Below w.heap.size w w1) (hown : w'.ownsRow 0 5 1 (.slice A' l'.length c') l'.length (l'.map byteV)) (hgr : w1.grownBy w' (Value.slice A l.length c).ownBlock)
    (hat : (Value.slice A' l'.length c').ownBlock = (Value.slice A l.length c).ownBlock ∨ (Value.slice A' l'.length c').ownBlock = some w1.heap.size) :
    (w'.cell? ⟨g, 1, none⟩ = some (.slice A l.length c) ∧ w'.frozen? ⟨g, 1, none⟩ = false) ∧
    ∃ R', Mk (w'.setCell ⟨g, 1, none⟩ (.slice A' l'.length c')) g R' err l' ∧ But R w (w'.setCell ⟨g, 1, none⟩ (.slice A' l'.length c')) ∧ ∀ b, R' b → R b ∨ w.heap.size ≤ b := by
  have hlt := (Array.getElem?_eq_some_iff.1 hg).1
  have hne : (Value.slice A l.length c).ownBlock ≠ some g := own_other ho hg (by decide)
  have hg1 : w1.heap[g]? = some (.cells #[.int .i64 err, .slice A l.length c] 116 (0, 0)) := (h1.block g hlt).trans hg
  have hg' : w'.heap[g]? = some (.cells #[.int .i64 err, .slice A l.length c] 116 (0, 0)) := (hgr.block g (Nat.lt_of_lt_of_le hlt h1.size) (fun h => hne h.symm)).trans hg1
  have hne' : (Value.slice A' l'.length c').ownBlock ≠ some g := own_other hown hg' (by decide)
  have hrow : ∀ b, (Value.slice A l.length c).ownBlock = some b → R b := by
    intro b hb
    cases A with
    | none => simp [Value.ownBlock] at hb
    | some a => simp [Value.ownBlock] at hb; subst hb; exact ha a rfl
  refine ⟨⟨by rw [cell_of_row _ _ _ _ _ _ hg']; rfl, frozen_of_row _ _ _ _ _ hg'⟩, fun b => R b ∨ some b = (Value.slice A' l'.length c').ownBlock, ?_, ?_, ?_⟩
  · refine ⟨A', c', heap_setCell_same w' g 1 _ _ _ hg', ?_, .inl hr, fun a h => .inr (by subst h; rfl), fun b hb => ?_⟩
    rotate_left
    · show b < (w'.setCell _ _).heap.size
      have hsz : (w'.setCell ⟨g, 1, none⟩ (.slice A' l'.length c')).heap.size = w'.heap.size := by simp [World.setCell]
      rw [hsz]
      rcases hb with hb | hb
      · exact Nat.lt_of_lt_of_le (hz b hb) (Nat.le_trans h1.size hgr.size)
      · obtain ⟨A2, c2, hv2, _, hb2⟩ := own_form hown
        cases A' with
        | none => simp [Value.ownBlock] at hb
        | some a' =>
          injection hv2 with hv2 _ _
          have := (hb2 a' hv2.symm).2.2
          simp [Value.ownBlock] at hb
          rw [hb]; exact this
    refine ⟨hown.1, ?_⟩
    rcases hown.2 with h0 | ⟨g', cap, cur, hv, hb1, hb2, hb3⟩
    · exact .inl h0
    · refine .inr ⟨g', cap, cur, hv, hb1, (heap_setCell_other w' _ g' _ ?_).trans hb2, hb3⟩
      intro hgg
      rw [hv] at hne'
      exact hne' (by simpa [Value.ownBlock] using hgg)
  · refine ⟨hgr.os.trans h1.os, hgr.tape.trans h1.tape, hgr.output.trans h1.output, Nat.le_trans h1.size (by simpa [World.setCell] using hgr.size), fun b hb hR => ?_⟩
    refine (heap_setCell_other w' _ b _ (fun h => hR (by rw [h]; exact hr))).trans ?_
    refine (hgr.block b (Nat.lt_of_lt_of_le hb h1.size) ?_).trans (h1.block b hb)
    intro h
    exact hR (hrow b h.symm)
  · intro b hb
    rcases hb with hb | hb
    · exact .inl hb
    · rcases hat with h | h
      · exact .inl (hrow b (by rw [← h]; exact hb.symm))
      · right
        rw [h] at hb
        injection hb with hb
        rw [hb]; exact h1.size
set_option maxHeartbeats 1000000 in
theorem makerU_ok (g : Nat) (R : Nat → Prop) (l : List UInt8) (v N : Nat) (w : World) (hm : Mk w g R 0 l) (hv : v < 18446744073709551616) (hN : 1 ≤ N ∧ N ≤ 8) (hv2 : N = 8 ∨ v < 256 ^ N) (hl : l.length ≤ 140737488355000) :
    Calls Tryz.prog 50 #[.pointer (some ⟨g, 0, none⟩), .int .u64 (v : Int), .int .i64 (N : Int)] w (MkPost w g R (0, l ++ bytesLE v N)) := by
  have hc0 := hm.cell0
  have hf0 := hm.fr 0
  have key : (N : Int) < 8 → ((v : Int) / 2 ^ (8 * N) != 0) = false := by
    intro h8
    have e : (2 : Int) ^ (8 * N) = ((256 ^ N : Nat) : Int) := by rw [Int.natCast_pow]; rw [Int.pow_mul]; rfl
    rw [e]
    have h4 : v < 256 ^ N := by rcases hv2 with h | h; · omega
                                · exact h
    have : v / 256 ^ N = 0 := Nat.div_eq_of_lt h4
    have h5 : ((v / 256 ^ N : Nat) : Int) = 0 := by rw [this]; rfl
    rw [Int.natCast_ediv] at h5
    rw [h5]; rfl
  by_cases h8 : N < 8
  · have d3 : (N : Int) < 8 := by omega
    have d4 := key d3
    clear key hv2
    go_enter Tryz.func50, Tryz.ntmps50
    go_wp2_with fail
    refine (mready_is g 0 true _ hc0 rfl).mono ?_
    rintro e w' ⟨rfl, rfl⟩
    go_wp2_with fail
    refine (may_yes g _ _ hc0 (by omega)).mono ?_
    rintro e w' ⟨rfl, rfl⟩
    go_wp2_with fail
    go_loopw [1, 31] (fun x i wr => ∃ k : Nat, k ≤ N ∧ i = .int .i64 k ∧ x = .int .u64 ((v / 256 ^ k : Nat) : Int) ∧ ∃ Rk, Mk wr g Rk 0 (l ++ bytesLE v k) ∧ But R w wr ∧ ∀ b, Rk b → R b ∨ w.heap.size ≤ b) (fun _ i _ => N - (intOf i).toNat)
    case atStart => exact ⟨0, by omega, rfl, by simp, R, by simpa [bytesLE] using hm, But.refl _ _, fun b h => .inl h⟩
    case round =>
      obtain ⟨k, hk, rfl, rfl, Rk, hmk, hbk, hRk⟩ := hrel
      have hMK := hmk
      obtain ⟨A, c, hg, ho, hr, ha, hz⟩ := hmk
      have hle : (l ++ bytesLE v k).length ≤ 140737488355010 := by rw [List.length_append, bytesLE_length]; omega
      have hdv : v / 256 ^ k ≤ v := Nat.div_le_self _ _
      have hdiv : v / 256 ^ (k + 1) = v / 256 ^ k / 256 := by rw [Nat.pow_succ, Nat.div_div_eq_div_mul]
      have hsn := bytesLE_snoc v k
      by_cases hlt : k < N
      · obtain ⟨m, hml⟩ : ∃ m, m = l ++ bytesLE v k := ⟨_, rfl⟩
        obtain ⟨x, hx⟩ : ∃ x, x = UInt8.ofNat (v / 256 ^ k % 256) := ⟨_, rfl⟩
        obtain ⟨m', hm'⟩ : ∃ m', m' = m ++ [x] := ⟨_, rfl⟩
        have hlast : m' = l ++ bytesLE v (k + 1) := by rw [hm', hsn, hx, hml, List.append_assoc]
        rw [← hml] at hg ho hle
        have hmm : m'.map byteV = m.map byteV ++ [byteV x] := by rw [hm']; simp
        have hml' : m.length + 1 = m'.length := by rw [hm']; simp
        have hxv : byteV x = .int .u8 (((v / 256 ^ k : Nat) : Int) % 256) := by
          rw [hx, byteV, UInt8.toNat_ofNat', Nat.mod_eq_of_lt (by omega)]; rfl
        have HLA := hid hlast
        have HDI := hid hdiv
        have HMM := hid hmm
        have HML := hid hml'
        have HXV := hid hxv
        generalize hy : v / 256 ^ k = y at hdv HDI HXV
        clear hml hx hm' hlast hdiv hmm hml' hxv hsn hy hMK
        have hc1 : wr.cell? ⟨g, 1, none⟩ = some (.slice A m.length c) := by rw [cell_of_row _ _ _ _ _ _ hg]; rfl
        have HG := hid hg
        clear hg
        have hd : decide ((k : Int) < N) = true := by simp; omega
        have hbel : Below wr.heap.size wr (wr.alloc (.cells #[.int .u8 ((y : Int) % 256)] 5)) := (Below.refl _ _).alloc (Nat.le_refl _) _
        go_wp2_with (at_builtin; refine wpList_app rfl (.tmp 37) (.tmp 40) _ rfl elB rfl (ho.alloc _) (some ⟨wr.heap.size, 0, none⟩) 1 1 rfl [byteV x] (Sees.of_alloc _ _ _ (by rw [HXV.out])) (by simp) (by simp [byteV, Value.oneCell']) m'.length HML.out (m'.map byteV) HMM.out.symm (by have := HML.out; unfold maxLen; omega) (by have := HML.out; omega) (Nat.zero_le _) ?_; intro A' c' w' hown hgr hat hb0; obtain ⟨⟨hp1, hp2⟩, R', hmk', hbut', hR'⟩ := mk_grow HG.out ho hr ha hz hbel hown hgr hat)
        exact ⟨⟨k + 1, by omega, by go_num, by rw [HDI.out]; rfl, R', HLA.out ▸ hmk', hbk.trans hbut' hRk, fun b hb => by
          rcases hR' b hb with h | h
          · exact hRk b h
          · exact .inr (Nat.le_trans hbk.size h)⟩, by simp [intOf]; omega⟩
      · obtain rfl : k = N := by omega
        clear hdiv hsn hg hdv
        go_wp2_with fail
        go_end0
        exact ⟨rfl, Rk, hMK, hbk, hRk⟩
  · have d3 : ¬ (N : Int) < 8 := by omega
    have d3' : decide ((N : Int) < 8) = false := by simp; omega
    clear key hv2
    go_enter Tryz.func50, Tryz.ntmps50
    go_wp2_with fail
    refine (mready_is g 0 true _ hc0 rfl).mono ?_
    rintro e w' ⟨rfl, rfl⟩
    go_wp2_with fail
    refine (may_yes g _ _ hc0 (by omega)).mono ?_
    rintro e w' ⟨rfl, rfl⟩
    go_wp2_with fail
    go_loopw [1, 31] (fun x i wr => ∃ k : Nat, k ≤ N ∧ i = .int .i64 k ∧ x = .int .u64 ((v / 256 ^ k : Nat) : Int) ∧ ∃ Rk, Mk wr g Rk 0 (l ++ bytesLE v k) ∧ But R w wr ∧ ∀ b, Rk b → R b ∨ w.heap.size ≤ b) (fun _ i _ => N - (intOf i).toNat)
    case atStart => exact ⟨0, by omega, rfl, by simp, R, by simpa [bytesLE] using hm, But.refl _ _, fun b h => .inl h⟩
    case round =>
      obtain ⟨k, hk, rfl, rfl, Rk, hmk, hbk, hRk⟩ := hrel
      have hMK := hmk
      obtain ⟨A, c, hg, ho, hr, ha, hz⟩ := hmk
      have hle : (l ++ bytesLE v k).length ≤ 140737488355010 := by rw [List.length_append, bytesLE_length]; omega
      have hdv : v / 256 ^ k ≤ v := Nat.div_le_self _ _
      have hdiv : v / 256 ^ (k + 1) = v / 256 ^ k / 256 := by rw [Nat.pow_succ, Nat.div_div_eq_div_mul]
      have hsn := bytesLE_snoc v k
      by_cases hlt : k < N
      · obtain ⟨m, hml⟩ : ∃ m, m = l ++ bytesLE v k := ⟨_, rfl⟩
        obtain ⟨x, hx⟩ : ∃ x, x = UInt8.ofNat (v / 256 ^ k % 256) := ⟨_, rfl⟩
        obtain ⟨m', hm'⟩ : ∃ m', m' = m ++ [x] := ⟨_, rfl⟩
        have hlast : m' = l ++ bytesLE v (k + 1) := by rw [hm', hsn, hx, hml, List.append_assoc]
        rw [← hml] at hg ho hle
        have hmm : m'.map byteV = m.map byteV ++ [byteV x] := by rw [hm']; simp
        have hml' : m.length + 1 = m'.length := by rw [hm']; simp
        have hxv : byteV x = .int .u8 (((v / 256 ^ k : Nat) : Int) % 256) := by
          rw [hx, byteV, UInt8.toNat_ofNat', Nat.mod_eq_of_lt (by omega)]; rfl
        have HLA := hid hlast
        have HDI := hid hdiv
        have HMM := hid hmm
        have HML := hid hml'
        have HXV := hid hxv
        generalize hy : v / 256 ^ k = y at hdv HDI HXV
        clear hml hx hm' hlast hdiv hmm hml' hxv hsn hy hMK
        have hc1 : wr.cell? ⟨g, 1, none⟩ = some (.slice A m.length c) := by rw [cell_of_row _ _ _ _ _ _ hg]; rfl
        have HG := hid hg
        clear hg
        have hd : decide ((k : Int) < N) = true := by simp; omega
        have hbel : Below wr.heap.size wr (wr.alloc (.cells #[.int .u8 ((y : Int) % 256)] 5)) := (Below.refl _ _).alloc (Nat.le_refl _) _
        go_wp2_with (at_builtin; refine wpList_app rfl (.tmp 37) (.tmp 40) _ rfl elB rfl (ho.alloc _) (some ⟨wr.heap.size, 0, none⟩) 1 1 rfl [byteV x] (Sees.of_alloc _ _ _ (by rw [HXV.out])) (by simp) (by simp [byteV, Value.oneCell']) m'.length HML.out (m'.map byteV) HMM.out.symm (by have := HML.out; unfold maxLen; omega) (by have := HML.out; omega) (Nat.zero_le _) ?_; intro A' c' w' hown hgr hat hb0; obtain ⟨⟨hp1, hp2⟩, R', hmk', hbut', hR'⟩ := mk_grow HG.out ho hr ha hz hbel hown hgr hat)
        exact ⟨⟨k + 1, by omega, by go_num, by rw [HDI.out]; rfl, R', HLA.out ▸ hmk', hbk.trans hbut' hRk, fun b hb => by
          rcases hR' b hb with h | h
          · exact hRk b h
          · exact .inr (Nat.le_trans hbk.size h)⟩, by simp [intOf]; omega⟩
      · obtain rfl : k = N := by omega
        clear hdiv hsn hg hdv
        go_wp2_with fail
        go_end0
        exact ⟨rfl, Rk, hMK, hbk, hRk⟩
end Go.Proofs.YtkmhmehofipehaaGreatDoor
/- The maker: Clone, Bytes, Raw, Len. -/
namespace Go.Proofs.YtkmhmehofipehaaGreatDoor
set_option linter.unusedVariables false
open Go.RowKit
/-- a new slice of these bytes -/
theorem eql_nil (A : Option Addr) (n c : Nat) (w : World) : (binOp .eql 22 (.slice A n c) (.slice none 0 0)).run Tryz.prog w = .ok (.bool A.isNone) w :=
  Lib.run_eql_slice_nil w _ _ A n c 0 0 Tryz.underlying22
def NewB (w : World) (l : List UInt8) (v : Value) (w' : World) : Prop :=
  ∃ (A : Option Addr) (c : Nat), v = .slice A l.length c ∧ w'.ownsRow w.heap.size 5 1 (.slice A l.length c) l.length (l.map byteV) ∧ Below w.heap.size w w'
theorem NewB.parts {w w' : World} {l : List UInt8} {v : Value} (h : NewB w l v w') :
    ∃ (A : Option Addr) (c : Nat), v = .slice A l.length c ∧ SeesB w' A l ∧ (∀ a, A = some a → w.heap.size ≤ a.block ∧ a.block < w'.heap.size) ∧ w'.ownsRow w.heap.size 5 1 (.slice A l.length c) l.length (l.map byteV) ∧ Below w.heap.size w w' := by
  obtain ⟨A, c, hv, ho, hb⟩ := h
  exact ⟨A, c, hv, own_sees ho, fun a ha => own_addr ho ha, ho, hb⟩
theorem NewB.none_ (w : World) : NewB w [] (.slice none 0 0) w := ⟨none, 0, rfl, own_nil _ _ _ _, Below.refl _ _⟩
def ClonePost (w : World) (l : List UInt8) (e : Ending) (w' : World) : Prop := ∃ v, e = .returned v ∧ NewB w l v w'
set_option maxHeartbeats 1000000 in
theorem clone_some (a : Addr) (c : Nat) (l : List UInt8) (w : World) (hl : SeesB w (some a) l) (hlen : l.length ≤ 140737488355328) :
    Calls Tryz.prog 81 #[.slice (some a) l.length c] w (ClonePost w l) := by
  have hnil := eql_nil (some a) l.length c
  have hb0 : Below w.heap.size w (w.alloc (.cells #[] 5)) := (Below.refl _ _).alloc (Nat.le_refl _) _
  have ho : (w.alloc (.cells #[] 5)).ownsRow w.heap.size 5 1 (.slice (some ⟨w.heap.size, 0, none⟩) 0 0) 0 [] :=
    ⟨rfl, .inr ⟨w.heap.size, 0, #[], rfl, Nat.le_refl _, heap_alloc_new _ _, Nat.le_refl _, by unfold maxLen; omega, rfl, rfl⟩⟩
  have hl0 := hl.below hb0
  go_enter Tryz.func81, Tryz.ntmps81
  go_wp2_with (at_builtin; refine wpList_app rfl (.tmp 5) (.tmp 6) _ rfl elB rfl ho (some a) l.length c rfl (l.map byteV) hl0 (by simp) (byte_one l) l.length (by omega) (l.map byteV) rfl (by unfold maxLen; omega) (by omega) hb0.size ?_; intro A' c' w' hown hgr hat hb1)
  go_ret
  exact ⟨_, rfl, A', c', rfl, hown, hb0.trans hb1⟩
set_option maxHeartbeats 1000000 in
theorem clone_none (n c : Nat) (w : World) :
    Calls Tryz.prog 81 #[.slice none n c] w (ClonePost w []) := by
  have hnil := eql_nil none n c
  go_enter Tryz.func81, Tryz.ntmps81
  go_wp2
  go_ret
  exact ⟨_, rfl, NewB.none_ w⟩
theorem clone_any (A : Option Addr) (c : Nat) (l : List UInt8) (w : World) (hl : SeesB w A l) (hlen : l.length ≤ 140737488355328) :
    Calls Tryz.prog 81 #[.slice A l.length c] w (ClonePost w l) := by
  cases A with
  | some a => exact clone_some a c l w hl hlen
  | none =>
    have : l = [] := by
      cases l with
      | nil => rfl
      | cons x l => obtain ⟨a, ha, _⟩ := hl 0 (byteV x) rfl; cases ha
    subst this
    exact clone_none _ _ _
def BytesPost (w : World) (l : List UInt8) (e : Ending) (w' : World) : Prop := ∃ v, e = .returned (.tuple #[v, .int .i64 0]) ∧ NewB w l v w'
set_option maxHeartbeats 1000000 in
theorem bytes_ok (g : Nat) (R : Nat → Prop) (l : List UInt8) (w : World) (hm : Mk w g R 0 l) (hlen : l.length ≤ 140737488355328) :
    Calls Tryz.prog 51 #[.pointer (some ⟨g, 0, none⟩)] w (BytesPost w l) := by
  have hc0 := hm.cell0
  obtain ⟨A, c, hg, ho, hr, ha, hz⟩ := hm
  have hc1 : w.cell? ⟨g, 1, none⟩ = some (.slice A l.length c) := by rw [cell_of_row _ _ _ _ _ _ hg]; rfl
  clear hg
  go_enter Tryz.func51, Tryz.ntmps51
  go_wp2_with fail
  refine (fine_is g 0 true _ hc0 rfl).mono ?_
  rintro e w' ⟨rfl, rfl⟩
  go_wp2_with fail
  refine (clone_any A c l _ (own_sees ho) hlen).mono ?_
  rintro e w' ⟨v, rfl, hv⟩
  go_wp2_with fail
  go_ret2
  exact ⟨_, rfl, hv⟩
def putRaw (s : Int × List UInt8) (b : List UInt8) : Int × List UInt8 := if s.1 ≠ 0 then s else (0, s.2 ++ b)
set_option maxHeartbeats 1000000 in
theorem raw_any (g : Nat) (R : Nat → Prop) (err : Int) (l : List UInt8) (A2 : Option Addr) (c2 : Nat) (b : List UInt8) (w : World) (hm : Mk w g R err l) (hb : SeesB w A2 b) (hlen : l.length + b.length ≤ 140737488355328) :
    Calls Tryz.prog 49 #[.pointer (some ⟨g, 0, none⟩), .slice A2 b.length c2] w (MkPost w g R (putRaw (err, l) b)) := by
  have hc0 := hm.cell0
  have hM := hm
  obtain ⟨A, c, hg, ho, hr, ha, hz⟩ := hm
  by_cases h0 : err = 0
  · subst h0
    have hp : putRaw (0, l) b = (0, l ++ b) := by rw [putRaw, if_neg (by simp)]
    rw [hp]
    obtain ⟨m, hm'⟩ : ∃ m, m = l ++ b := ⟨_, rfl⟩
    have hmm : m.map byteV = l.map byteV ++ b.map byteV := by rw [hm']; simp
    have hml : l.length + b.length = m.length := by rw [hm']; simp
    rw [← hm']
    have HMM := hid hmm
    have HML := hid hml
    have hm3 : m.length ≤ 140737488355328 := by omega
    clear hmm hml hm' hlen
    have hc1 : w.cell? ⟨g, 1, none⟩ = some (.slice A l.length c) := by rw [cell_of_row _ _ _ _ _ _ hg]; rfl
    have HG := hid hg
    clear hg hM
    go_enter Tryz.func49, Tryz.ntmps49
    go_wp2_with fail
    refine (mready_is g 0 true _ hc0 rfl).mono ?_
    rintro e w' ⟨rfl, rfl⟩
    go_wp2_with (at_builtin; refine wpList_app rfl (.tmp 10) (.tmp 11) _ rfl elB rfl ho A2 b.length c2 rfl (b.map byteV) hb (by simp) (byte_one b) m.length HML.out (m.map byteV) HMM.out.symm (by unfold maxLen; omega) (by omega) (Nat.zero_le _) ?_; intro A' c' w' hown hgr hat hb0; obtain ⟨⟨hp1, hp2⟩, R', hmk', hbut', hR'⟩ := mk_grow HG.out ho hr ha hz (Below.refl _ _) hown hgr hat)
    go_end0
    exact ⟨rfl, R', hmk', hbut', hR'⟩
  · have hp : putRaw (err, l) b = (err, l) := by rw [putRaw, if_pos h0]
    rw [hp]
    have d0 : (err == 0) = false := by simpa using h0
    go_enter Tryz.func49, Tryz.ntmps49
    go_wp2_with fail
    refine (mready_is g err false _ hc0 d0).mono ?_
    rintro e w' ⟨rfl, rfl⟩
    go_wp2_with fail
    go_end0
    exact ⟨rfl, R, hM, But.refl _ _, fun b h => .inl h⟩
end Go.Proofs.YtkmhmehofipehaaGreatDoor
/- A taker of fields: what its small functions do. -/
namespace Go.Proofs.YtkmhmehofipehaaGreatDoor
set_option linter.unusedVariables false
open Go.RowKit
theorem SeesB.cutTo {w : World} {A : Option Addr} {l : List UInt8} (h : SeesB w A l) (k n : Nat) : SeesB w (A.map (·.add k)) ((l.drop k).take n) := by
  intro i v hv
  have hin : i < n := by
    rcases Nat.lt_or_ge i n with h1 | h1
    · exact h1
    · rw [List.getElem?_eq_none (by simp; omega)] at hv; cases hv
  rw [List.getElem?_map, List.getElem?_take_of_lt hin, List.getElem?_drop, ← List.getElem?_map] at hv
  obtain ⟨a, ha, hc⟩ := h _ v hv
  exact ⟨a.add k, by rw [ha]; rfl, by rw [addr_add]; exact hc⟩
theorem own_cap {w : World} {base n size : Nat} {e : TypeId} {A : Option Addr} {c : Nat} {xs : List Value} (h : w.ownsRow base e size (.slice A n c) n xs) : n ≤ c ∧ c ≤ maxLen := by
  rcases h.2 with ⟨h', h0⟩ | ⟨g, cap, cur, h', hb, hg, h1, h2, _⟩
  · injection h' with _ _ h3
    subst h0 h3; exact ⟨Nat.le_refl _, by unfold maxLen; omega⟩
  · injection h' with _ _ h3
    subst h3; exact ⟨h1, h2⟩
/-- block g is a taker with this error, at this place of these bytes -/
def Tk (w : World) (g : Nat) (err : Int) (p : Nat) (l : List UInt8) : Prop :=
  ∃ (A : Option Addr) (c : Nat), w.heap[g]? = some (.cells #[.int .i64 err, .slice A l.length c, .int .i64 (p : Int)] 142 (0, 0)) ∧ SeesB w A l ∧ l.length ≤ c ∧ c ≤ maxLen ∧ p ≤ l.length ∧ ∀ a, A = some a → a.block ≠ g
def Only (g n : Nat) : Prop := n = g
theorem Tk.cells {w : World} {g : Nat} {err : Int} {p : Nat} {l : List UInt8} (h : Tk w g err p l) :
    ∃ (A : Option Addr) (c : Nat), w.cell? ⟨g, 0, none⟩ = some (.int .i64 err) ∧ w.cell? ⟨g, 1, none⟩ = some (.slice A l.length c) ∧ w.cell? ⟨g, 2, none⟩ = some (.int .i64 (p : Int)) ∧ SeesB w A l ∧ l.length ≤ c ∧ c ≤ maxLen ∧ p ≤ l.length ∧ ∀ i, w.frozen? ⟨g, i, none⟩ = false := by
  obtain ⟨A, c, hg, hs, h1, h2, h3, h4⟩ := h
  exact ⟨A, c, by rw [cell_of_row _ _ _ _ _ _ hg]; rfl, by rw [cell_of_row _ _ _ _ _ _ hg]; rfl, by rw [cell_of_row _ _ _ _ _ _ hg]; rfl, hs, h1, h2, h3, fun i => frozen_of_row _ _ _ _ _ hg⟩
theorem Tk.setErr {w : World} {g : Nat} {err : Int} {p : Nat} {l : List UInt8} (h : Tk w g err p l) (e : Int) : Tk (w.setCell ⟨g, 0, none⟩ (.int .i64 e)) g e p l ∧ But (Only g) w (w.setCell ⟨g, 0, none⟩ (.int .i64 e)) := by
  obtain ⟨A, c, hg, hs, h1, h2, h3, h4⟩ := h
  have hb : But (Only g) w (w.setCell ⟨g, 0, none⟩ (.int .i64 e)) := ⟨rfl, rfl, rfl, by simp [World.setCell], fun b _ hb => heap_setCell_other w _ b _ (fun h => hb h)⟩
  exact ⟨⟨A, c, heap_setCell_same w g 0 _ _ _ hg, Sees.but hs hb (fun a ha h => h4 a ha h), h1, h2, h3, h4⟩, hb⟩
theorem Tk.setAt {w : World} {g : Nat} {err : Int} {p : Nat} {l : List UInt8} (h : Tk w g err p l) (q : Nat) (hq : q ≤ l.length) : Tk (w.setCell ⟨g, 2, none⟩ (.int .i64 (q : Int))) g err q l ∧ But (Only g) w (w.setCell ⟨g, 2, none⟩ (.int .i64 (q : Int))) := by
  obtain ⟨A, c, hg, hs, h1, h2, h3, h4⟩ := h
  have hb : But (Only g) w (w.setCell ⟨g, 2, none⟩ (.int .i64 (q : Int))) := ⟨rfl, rfl, rfl, by simp [World.setCell], fun b _ hb => heap_setCell_other w _ b _ (fun h => hb h)⟩
  exact ⟨⟨A, c, heap_setCell_same w g 2 _ _ _ hg, Sees.but hs hb (fun a ha h => h4 a ha h), h1, h2, hq, h4⟩, hb⟩
theorem Tk.below {w w' : World} {g : Nat} {err : Int} {p : Nat} {l : List UInt8} (h : Tk w g err p l) (hb : Below w.heap.size w w') : Tk w' g err p l := by
  obtain ⟨A, c, hg, hs, h1, h2, h3, h4⟩ := h
  exact ⟨A, c, (hb.block g (Array.getElem?_eq_some_iff.1 hg).1).trans hg, hs.below hb, h1, h2, h3, h4⟩
set_option maxHeartbeats 400000 in
theorem tready_is (g : Nat) (err : Int) (b : Bool) (w : World) (hc0 : w.cell? ⟨g, 0, none⟩ = some (.int .i64 err)) (h : (err == 0) = b) :
    Calls Tryz.prog 83 #[.pointer (some ⟨g, 0, none⟩)] w fun x w' => x = .returned (.bool b) ∧ w = w' := by
  go_enter Tryz.func83, Tryz.ntmps83
  go_wp2
  go_ret
  exact ⟨rfl, rfl⟩
def TakePost (w : World) (l : List UInt8) (e : Ending) (w' : World) : Prop := ∃ g, e = .returned (.pointer (some ⟨g, 0, none⟩)) ∧ w.heap.size ≤ g ∧ Tk w' g 0 0 l ∧ Below w.heap.size w w'
set_option maxHeartbeats 1000000 in
theorem take_any (A : Option Addr) (c : Nat) (l : List UInt8) (w : World) (hl : SeesB w A l) (hlen : l.length ≤ 140737488355328) :
    Calls Tryz.prog 54 #[.slice A l.length c] w (TakePost w l) := by
  go_enter Tryz.func54, Tryz.ntmps54
  go_wp2_with fail
  refine (clone_any A c l _ hl hlen).mono ?_
  rintro e w1 ⟨v, rfl, hv⟩
  obtain ⟨A1, c1, rfl, hs, hA, ho, hb⟩ := hv.parts
  go_wp2_with fail
  go_ret
  refine ⟨w1.heap.size, rfl, hb.size, ⟨A1, c1, heap_alloc_new _ _, SeesB.below hs ((Below.refl _ w1).alloc (Nat.le_refl _) _), (own_cap ho).1, (own_cap ho).2, Nat.zero_le _, fun a ha => ?_⟩, hb.alloc hb.size _⟩
  have := (hA a ha).2
  omega
/-- what a taker that is fine gives of the next n bytes -/
def tnext (p : Nat) (l : List UInt8) (n : Nat) : (Int × Nat) × List UInt8 := if l.length - p < n then ((10, p), []) else ((0, p + n), (l.drop p).take n)
def NextPost (w : World) (g : Nat) (l : List UInt8) (r : (Int × Nat) × List UInt8) (e : Ending) (w' : World) : Prop :=
  ∃ (A : Option Addr) (c : Nat), e = .returned (.slice A r.2.length c) ∧ SeesB w' A r.2 ∧ r.2.length ≤ c ∧ c ≤ maxLen ∧ Tk w' g r.1.1 r.1.2 l ∧ But (Only g) w w'
set_option maxHeartbeats 1000000 in
theorem tnext_any (g : Nat) (p n : Nat) (l : List UInt8) (w : World) (h : Tk w g 0 p l) (hlen : l.length ≤ 140737488355328) (hn : n ≤ 9223372036854775807) :
    Calls Tryz.prog 84 #[.pointer (some ⟨g, 0, none⟩), .int .i64 (n : Int)] w (NextPost w g l (tnext p l n)) := by
  obtain ⟨A, c, hc0, hc1, hc2, hs, h1, h2, h3, hf⟩ := h.cells
  have hf0 := hf 0
  have hf2 := hf 2
  by_cases hlt : l.length - p < n
  · rw [tnext, if_pos hlt]
    have d1 : decide ((l.length : Int) - p < n) = true := by simp; omega
    go_enter Tryz.func84, Tryz.ntmps84
    go_wp2_with fail
    go_quiet (fail)
    go_wp2_with fail
    have hdr : Below w.heap.size w (w.drewN nq) := ⟨rfl, rfl, rfl, Nat.le_refl _, fun _ _ => rfl⟩
    refine (fail_ok g 10 (w.drewN nq) hc0 hf0).mono ?_
    rintro e w' ⟨rfl, rfl⟩
    go_wp2_with fail
    have hT := (h.below hdr).setErr 10
    go_ret
    exact ⟨none, 0, rfl, Sees.nil _ _, Nat.le_refl _, by unfold maxLen; omega, hT.1, (But.of_below (R := Only g) hdr).trans hT.2 (fun n h => .inl h)⟩
  · rw [tnext, if_neg hlt]
    have d1 : decide ((n : Int) > (l.length : Int) - p) = false := by simp; omega
    have hw2 : wrap64 ((p : Int) + n) = ((p + n : Nat) : Int) := by unfold wrap64; unfold maxLen at h2; omega
    go_enter Tryz.func84, Tryz.ntmps84
    go_wp2_with fail
    go_quiet (fail)
    go_wp2_with fail
    have hdr : Below w.heap.size w (w.drewN nq) := ⟨rfl, rfl, rfl, Nat.le_refl _, fun _ _ => rfl⟩
    have hT := (h.below hdr).setAt (p + n) (by omega)
    rw [show ((p + n : Nat) : Int) = (p : Int) + n by omega] at hT
    generalize (w.drewN nq).setCell ⟨g, 2, none⟩ (.int .i64 ((p : Int) + n)) = w1 at *
    obtain ⟨hT1, hT2⟩ := hT
    clear hc0 hc1 hc2 hs hf hf0 hf2
    obtain ⟨A, c, hc0, hc1, hc2, hs, h1, h2, h3, hf⟩ := hT1.cells
    rw [show ((p + n : Nat) : Int) = (p : Int) + n by omega] at hc2
    have b0 : 0 ≤ (p : Int) := by omega
    have b1 : (p : Int) ≤ p + n := by omega
    have b2 : (p : Int) + n ≤ c := by omega
    go_quiet (fail)
    go_wp2_with fail
    · have hl2 : (l.drop p).take n = [] := by rw [List.drop_eq_nil_of_le (by omega), List.take_nil]
      have hn0 : n = 0 := by omega
      have hd1 : Below w1.heap.size w1 (w1.drewN nq) := ⟨rfl, rfl, rfl, Nat.le_refl _, fun _ _ => rfl⟩
      rw [hl2]
      refine bodyPost_ret (results_tmp rfl _ _ _) rfl ?_
      refine ⟨A, 0, ?_, Sees.nil _ _, Nat.le_refl _, by unfold maxLen; omega, hT1.below hd1, ((But.of_below (R := Only g) hdr).trans hT2 (fun n h => .inl h)).trans (But.of_below (R := fun _ => False) hd1) (fun n h => h.elim)⟩
      subst hn0; rfl
    · have hlen2 : ((l.drop p).take n).length = n := by simp; omega
      have hd1 : Below w1.heap.size w1 (w1.drewN nq) := ⟨rfl, rfl, rfl, Nat.le_refl _, fun _ _ => rfl⟩
      have hf : NextPost w g l ((0, p + n), (l.drop p).take n) (.returned (.slice (A.map (·.add p)) n (c - p))) (w1.drewN nq) :=
        ⟨_, _, by rw [hlen2], SeesB.cutTo (SeesB.below hs hd1) p n, by rw [hlen2]; omega, by omega, hT1.below hd1, ((But.of_below (R := Only g) hdr).trans hT2 (fun n h => .inl h)).trans (But.of_below (R := fun _ => False) hd1) (fun n h => h.elim)⟩
      go_ret
      exact hf
end Go.Proofs.YtkmhmehofipehaaGreatDoor
/- How bytes begin. -/
namespace Go.Proofs.YtkmhmehofipehaaGreatDoor
set_option linter.unusedVariables false
open Go.RowKit
def startsI (l : List UInt8) : Bool := decide (l.take 4 = ([68, 83, 67, 49] : List UInt8).take l.length)
theorem magic_take (n : Nat) (h : n ≤ 4) : ((⟨#[68, 83, 67, 49]⟩ : ByteArray).extract 0 n).toList = ([68, 83, 67, 49] : List UInt8).take n := by
  obtain rfl | rfl | rfl | rfl | rfl : n = 0 ∨ n = 1 ∨ n = 2 ∨ n = 3 ∨ n = 4 := by omega
  all_goals (rw [ByteArray.toList_eq]; decide +kernel)
theorem beq_dec (l m : List UInt8) : (l == m) = decide (l = m) := by
  by_cases h : l = m <;> simp [h]
set_option maxHeartbeats 1000000 in
theorem starts_one (A : Option Addr) (c : Nat) (x : UInt8) (w : World) (hl : SeesB w A [x]) (hc : 1 ≤ c) :
    Calls Tryz.prog 53 #[.slice A 1 c] w fun e w' => e = .returned (.bool (startsI [x])) ∧ Below w.heap.size w w' := by
  have hcv : ∀ W, SeesB W A [x] → (convert 22 9 (.slice A 1 c)).run Tryz.prog W = .ok (.string ⟨#[x]⟩) W := fun W h => conv_bs A c [x] W h
  have f1 : (1 : Int) ≤ c := by omega
  have hld : SeesB w.drew A [x] := hl
  go_enter Tryz.func53, Tryz.ntmps53
  go_wp2_with fail
  go_region_held3 (fun w' => SeesB w' A [x]) (exact hl) (fail)
  go_wp2_with fail
  go_ret
  exact ⟨ret_bool (by first | (rw [magic_take 1 (by omega), beq_dec]; rfl) | (unfold startsI; rfl)), ⟨rfl, rfl, rfl, Nat.le_refl _, fun _ _ => rfl⟩⟩
set_option maxHeartbeats 1000000 in
theorem starts_two (A : Option Addr) (c : Nat) (x y : UInt8) (w : World) (hl : SeesB w A [x, y]) (hc : 2 ≤ c) :
    Calls Tryz.prog 53 #[.slice A 2 c] w fun e w' => e = .returned (.bool (startsI [x, y])) ∧ Below w.heap.size w w' := by
  have hcv : ∀ W, SeesB W A [x, y] → (convert 22 9 (.slice A 2 c)).run Tryz.prog W = .ok (.string ⟨#[x, y]⟩) W := fun W h => conv_bs A c [x, y] W h
  have f1 : (2 : Int) ≤ c := by omega
  have hld : SeesB w.drew A [x, y] := hl
  go_enter Tryz.func53, Tryz.ntmps53
  go_wp2_with fail
  go_region_held3 (fun w' => SeesB w' A [x, y]) (exact hl) (fail)
  go_wp2_with fail
  go_ret
  exact ⟨ret_bool (by first | (rw [magic_take 2 (by omega), beq_dec]; rfl) | (unfold startsI; rfl)), ⟨rfl, rfl, rfl, Nat.le_refl _, fun _ _ => rfl⟩⟩
set_option maxHeartbeats 1000000 in
theorem starts_three (A : Option Addr) (c : Nat) (x y z : UInt8) (w : World) (hl : SeesB w A [x, y, z]) (hc : 3 ≤ c) :
    Calls Tryz.prog 53 #[.slice A 3 c] w fun e w' => e = .returned (.bool (startsI [x, y, z])) ∧ Below w.heap.size w w' := by
  have hcv : ∀ W, SeesB W A [x, y, z] → (convert 22 9 (.slice A 3 c)).run Tryz.prog W = .ok (.string ⟨#[x, y, z]⟩) W := fun W h => conv_bs A c [x, y, z] W h
  have f1 : (3 : Int) ≤ c := by omega
  have hld : SeesB w.drew A [x, y, z] := hl
  go_enter Tryz.func53, Tryz.ntmps53
  go_wp2_with fail
  go_region_held3 (fun w' => SeesB w' A [x, y, z]) (exact hl) (fail)
  go_wp2_with fail
  go_ret
  exact ⟨ret_bool (by first | (rw [magic_take 3 (by omega), beq_dec]; rfl) | (unfold startsI; rfl)), ⟨rfl, rfl, rfl, Nat.le_refl _, fun _ _ => rfl⟩⟩
set_option maxHeartbeats 1000000 in
theorem starts_four (A : Option Addr) (c : Nat) (x y z u : UInt8) (w : World) (hl : SeesB w A [x, y, z, u]) (hc : 4 ≤ c) :
    Calls Tryz.prog 53 #[.slice A 4 c] w fun e w' => e = .returned (.bool (startsI [x, y, z, u])) ∧ Below w.heap.size w w' := by
  have hcv : ∀ W, SeesB W A [x, y, z, u] → (convert 22 9 (.slice A 4 c)).run Tryz.prog W = .ok (.string ⟨#[x, y, z, u]⟩) W := fun W h => conv_bs A c [x, y, z, u] W h
  have f1 : (4 : Int) ≤ c := by omega
  have hld : SeesB w.drew A [x, y, z, u] := hl
  go_enter Tryz.func53, Tryz.ntmps53
  go_wp2_with fail
  go_region_held3 (fun w' => SeesB w' A [x, y, z, u]) (exact hl) (fail)
  go_wp2_with fail
  go_ret
  exact ⟨ret_bool (by first | (rw [magic_take 4 (by omega), beq_dec]; rfl) | (unfold startsI; rfl)), ⟨rfl, rfl, rfl, Nat.le_refl _, fun _ _ => rfl⟩⟩
set_option maxHeartbeats 1000000 in
theorem starts_none (A : Option Addr) (c : Nat) (w : World) :
    Calls Tryz.prog 53 #[.slice A 0 c] w fun e w' => e = .returned (.bool (startsI [])) ∧ Below w.heap.size w w' := by
  have hcv : ∀ W, (convert 22 9 (.slice A 0 c)).run Tryz.prog W = .ok (.string ⟨#[]⟩) W := fun W => conv_bs A c [] W (Sees.nil _ _)
  have hcv2 : ∀ W d, (convert 22 9 (.slice A 0 d)).run Tryz.prog W = .ok (.string ⟨#[]⟩) W := fun W d => conv_bs A d [] W (Sees.nil _ _)
  have f1 : (0 : Int) ≤ c := by omega
  go_enter Tryz.func53, Tryz.ntmps53
  go_wp2_with fail
  go_region_held3 (fun w' => w'.heap.size = w.heap.size) (first | rfl | assumption) (fail)
  go_wp2_with fail
  go_ret
  exact ⟨ret_bool (by first | rfl | (rw [magic_take 0 (by omega), beq_dec]; rfl)), ⟨rfl, rfl, rfl, Nat.le_refl _, fun _ _ => rfl⟩⟩
set_option maxHeartbeats 1000000 in
theorem starts_long (A : Option Addr) (c : Nat) (l : List UInt8) (w : World) (hl : SeesB w A l) (hc : l.length ≤ c) (h4 : 5 ≤ l.length) :
    Calls Tryz.prog 53 #[.slice A l.length c] w fun e w' => e = .returned (.bool (startsI l)) ∧ Below w.heap.size w w' := by
  have hs4 : SeesB w A (l.take 4) := by unfold SeesB; rw [List.map_take]; exact Sees.take hl 4
  have hlen4 : (l.take 4).length = 4 := by rw [List.length_take]; omega
  have HST : Hid (decide (l.take 4 = [68, 83, 67, 49]) = startsI l) := hid (by unfold startsI; rw [List.take_of_length_le (l := [68, 83, 67, 49]) (by simp; omega)])
  generalize l.take 4 = m at *
  have hcv : ∀ W, SeesB W A m → (convert 22 9 (.slice A 4 c)).run Tryz.prog W = .ok (.string ⟨m.toArray⟩) W := fun W h => by
    have := conv_bs A c m W h
    rw [hlen4] at this
    exact this
  have f1 : (4 : Int) ≤ c := by omega
  have hmin : min (l.length : Int) 4 = 4 := by omega
  have dm1 : decide ((l.length : Int) ≤ 4) = false := by simp; omega
  have dm2 : decide ((l.length : Int) < 4) = false := by simp; omega
  have dm3 : decide (4 < (l.length : Int)) = true := by simp; omega
  have dm4 : decide ((4 : Int) ≤ (l.length : Int)) = true := by simp; omega
  have hld : SeesB w.drew A m := hs4
  have hm4 := hid hlen4
  clear hlen4
  go_enter Tryz.func53, Tryz.ntmps53
  go_wp2_with fail
  go_region_held3 (fun w' => SeesB w' A m) (exact hs4) (fail)
  go_wp2_with fail
  go_ret
  exact ⟨ret_bool (by rw [magic_take 4 (by omega), beq_dec]; exact HST.out), ⟨rfl, rfl, rfl, Nat.le_refl _, fun _ _ => rfl⟩⟩
theorem starts_any (A : Option Addr) (c : Nat) (l : List UInt8) (w : World) (hl : SeesB w A l) (hc : l.length ≤ c) :
    Calls Tryz.prog 53 #[.slice A l.length c] w fun e w' => e = .returned (.bool (startsI l)) ∧ Below w.heap.size w w' := by
  match l, hl, hc with
  | [], _, _ => exact starts_none A c w
  | [x], hl, hc => exact starts_one A c x w hl hc
  | [x, y], hl, hc => exact starts_two A c x y w hl hc
  | [x, y, z], hl, hc => exact starts_three A c x y z w hl hc
  | [x, y, z, u], hl, hc => exact starts_four A c x y z u w hl hc
  | x :: y :: z :: u :: v :: l, hl, hc => exact starts_long A c _ w hl hc (by simp)
end Go.Proofs.YtkmhmehofipehaaGreatDoor
