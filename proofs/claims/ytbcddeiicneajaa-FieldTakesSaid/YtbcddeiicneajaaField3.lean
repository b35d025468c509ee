/- The maker: Clone, Bytes, Raw, Len. -/
import Derived.Test.YtbcddeiicneajaaField2
import Derived.Deep.QuietTactic
import Derived.BigQuiet
namespace Go.Proofs.Ytbcddeiicneajaa
set_option linter.unusedVariables false
open Go.RowKit
/-- a new slice of these bytes -/
theorem eql_nil (A : Option Addr) (n c : Nat) (w : World) : (binOp .eql 29 (.slice A n c) (.slice none 0 0)).run Try.prog w = .ok (.bool A.isNone) w :=
  Lib.run_eql_slice_nil w _ _ A n c 0 0 Try.underlying29
def NewB (w : World) (l : List UInt8) (v : Value) (w' : World) : Prop :=
  ∃ (A : Option Addr) (c : Nat), v = .slice A l.length c ∧ w'.ownsRow w.heap.size 5 1 (.slice A l.length c) l.length (l.map byteV) ∧ Below w.heap.size w w'
theorem NewB.parts {w w' : World} {l : List UInt8} {v : Value} (h : NewB w l v w') :
    ∃ (A : Option Addr) (c : Nat), v = .slice A l.length c ∧ SeesB w' A l ∧ (∀ a, A = some a → w.heap.size ≤ a.block ∧ a.block < w'.heap.size) ∧ w'.ownsRow w.heap.size 5 1 (.slice A l.length c) l.length (l.map byteV) ∧ Below w.heap.size w w' := by
  obtain ⟨A, c, hv, ho, hb⟩ := h
  exact ⟨A, c, hv, own_sees ho, fun a ha => own_addr ho ha, ho, hb⟩
theorem NewB.none_ (w : World) : NewB w [] (.slice none 0 0) w := ⟨none, 0, rfl, own_nil _ _ _ _, Below.refl _ _⟩
def ClonePost (w : World) (l : List UInt8) (e : Ending) (w' : World) : Prop := ∃ v, e = .returned v ∧ NewB w l v w'
set_option maxHeartbeats 1000000 in
theorem clone_some (a : Addr) (c : Nat) (l : List UInt8) (w : World) (hl : SeesB w (some a) l) (hlen : l.length ≤ 140737488355328) :
    Calls Try.prog 32 #[.slice (some a) l.length c] w (ClonePost w l) := by
  have hnil := eql_nil (some a) l.length c
  have hb0 : Below w.heap.size w (w.alloc (.cells #[] 5)) := (Below.refl _ _).alloc (Nat.le_refl _) _
  have ho : (w.alloc (.cells #[] 5)).ownsRow w.heap.size 5 1 (.slice (some ⟨w.heap.size, 0, none⟩) 0 0) 0 [] :=
    ⟨rfl, .inr ⟨w.heap.size, 0, #[], rfl, Nat.le_refl _, heap_alloc_new _ _, Nat.le_refl _, by unfold maxLen; omega, rfl, rfl⟩⟩
  have hl0 := hl.below hb0
  go_enter Try.func32, Try.ntmps32
  go_wp2_with (at_builtin; refine wpList_app rfl (.tmp 5) (.tmp 6) _ rfl elB rfl ho (some a) l.length c rfl (l.map byteV) hl0 (by simp) (byte_one l) l.length (by omega) (l.map byteV) rfl (by unfold maxLen; omega) (by omega) hb0.size ?_; intro A' c' w' hown hgr hat hb1)
  go_ret
  exact ⟨_, rfl, A', c', rfl, hown, hb0.trans hb1⟩
set_option maxHeartbeats 1000000 in
theorem clone_none (n c : Nat) (w : World) :
    Calls Try.prog 32 #[.slice none n c] w (ClonePost w []) := by
  have hnil := eql_nil none n c
  go_enter Try.func32, Try.ntmps32
  go_wp2
  go_ret
  exact ⟨_, rfl, NewB.none_ w⟩
theorem clone_any (A : Option Addr) (c : Nat) (l : List UInt8) (w : World) (hl : SeesB w A l) (hlen : l.length ≤ 140737488355328) :
    Calls Try.prog 32 #[.slice A l.length c] w (ClonePost w l) := by
  cases A with
  | some a => exact clone_some a c l w hl hlen
  | none =>
    have : l = [] := by
      cases l with
      | nil => rfl
      | cons x l => obtain ⟨a, ha, _⟩ := hl 0 (byteV x) rfl; cases ha
    subst this
    exact clone_none _ _ _
def BytesPost (w : World) (l : List UInt8) (e : Ending) (w' : World) : Prop := ∃ v, e = .returned (.tuple #[v, .int .i64 0]) ∧ NewB w l v w'
set_option maxHeartbeats 1000000 in
theorem bytes_ok (g : Nat) (R : Nat → Prop) (l : List UInt8) (w : World) (hm : Mk w g R 0 l) (hlen : l.length ≤ 140737488355328) :
    Calls Try.prog 11 #[.pointer (some ⟨g, 0, none⟩)] w (BytesPost w l) := by
  have hc0 := hm.cell0
  obtain ⟨A, c, hg, ho, hr, ha, hz⟩ := hm
  have hc1 : w.cell? ⟨g, 1, none⟩ = some (.slice A l.length c) := by rw [cell_of_row _ _ _ _ _ _ hg]; rfl
  clear hg
  go_enter Try.func11, Try.ntmps11
  go_wp2_with fail
  refine (fine_is g 0 true _ hc0 rfl).mono ?_
  rintro e w' ⟨rfl, rfl⟩
  go_wp2_with fail
  refine (clone_any A c l _ (own_sees ho) hlen).mono ?_
  rintro e w' ⟨v, rfl, hv⟩
  go_wp2_with fail
  go_ret2
  exact ⟨_, rfl, hv⟩
set_option maxHeartbeats 1000000 in
theorem bytes_bad (g : Nat) (R : Nat → Prop) (err : Int) (l : List UInt8) (w : World) (hm : Mk w g R err l) (h0 : err ≠ 0) :
    Calls Try.prog 11 #[.pointer (some ⟨g, 0, none⟩)] w fun e w' => e = .returned (.tuple #[.slice none 0 0, .int .i64 err]) ∧ Below w.heap.size w w' := by
  have hc0 := hm.cell0
  have d0 : (err == 0) = false := by simpa using h0
  go_enter Try.func11, Try.ntmps11
  go_wp2_with fail
  refine (fine_is g err false _ hc0 d0).mono ?_
  rintro e w' ⟨rfl, rfl⟩
  go_wp2_with fail
  go_quiet (fail)
  go_wp2_with fail
  go_ret2
  exact ⟨rfl, ⟨rfl, rfl, rfl, Nat.le_refl _, fun _ _ => rfl⟩⟩
set_option maxHeartbeats 1000000 in
theorem bytes_nil (w : World) :
    Calls Try.prog 11 #[.pointer none] w fun e w' => e = .returned (.tuple #[.slice none 0 0, .int .i64 2]) ∧ w = w' := by
  go_enter Try.func11, Try.ntmps11
  go_wp2_with fail
  go_ret2
  exact ⟨rfl, rfl⟩
def putRaw (s : Int × List UInt8) (b : List UInt8) : Int × List UInt8 := if s.1 ≠ 0 then s else (0, s.2 ++ b)
set_option maxHeartbeats 1000000 in
theorem raw_any (g : Nat) (R : Nat → Prop) (err : Int) (l : List UInt8) (A2 : Option Addr) (c2 : Nat) (b : List UInt8) (w : World) (hm : Mk w g R err l) (hb : SeesB w A2 b) (hlen : l.length + b.length ≤ 140737488355328) :
    Calls Try.prog 25 #[.pointer (some ⟨g, 0, none⟩), .slice A2 b.length c2] w (MkPost w g R (putRaw (err, l) b)) := by
  have hc0 := hm.cell0
  have hM := hm
  obtain ⟨A, c, hg, ho, hr, ha, hz⟩ := hm
  by_cases h0 : err = 0
  · subst h0
    have hp : putRaw (0, l) b = (0, l ++ b) := by rw [putRaw, if_neg (by simp)]
    rw [hp]
    obtain ⟨m, hm'⟩ : ∃ m, m = l ++ b := ⟨_, rfl⟩
    have hmm : m.map byteV = l.map byteV ++ b.map byteV := by rw [hm']; simp
    have hml : l.length + b.length = m.length := by rw [hm']; simp
    rw [← hm']
    have HMM := hid hmm
    have HML := hid hml
    have hm3 : m.length ≤ 140737488355328 := by omega
    clear hmm hml hm' hlen
    have hc1 : w.cell? ⟨g, 1, none⟩ = some (.slice A l.length c) := by rw [cell_of_row _ _ _ _ _ _ hg]; rfl
    have HG := hid hg
    clear hg hM
    go_enter Try.func25, Try.ntmps25
    go_wp2_with fail
    refine (mready_is g 0 true _ hc0 rfl).mono ?_
    rintro e w' ⟨rfl, rfl⟩
    go_wp2_with (at_builtin; refine wpList_app rfl (.tmp 10) (.tmp 11) _ rfl elB rfl ho A2 b.length c2 rfl (b.map byteV) hb (by simp) (byte_one b) m.length HML.out (m.map byteV) HMM.out.symm (by unfold maxLen; omega) (by omega) (Nat.zero_le _) ?_; intro A' c' w' hown hgr hat hb0; obtain ⟨⟨hp1, hp2⟩, R', hmk', hbut', hR'⟩ := mk_grow HG.out ho hr ha hz (Below.refl _ _) hown hgr hat)
    go_end0
    exact ⟨rfl, R', hmk', hbut', hR'⟩
  · have hp : putRaw (err, l) b = (err, l) := by rw [putRaw, if_pos h0]
    rw [hp]
    have d0 : (err == 0) = false := by simpa using h0
    go_enter Try.func25, Try.ntmps25
    go_wp2_with fail
    refine (mready_is g err false _ hc0 d0).mono ?_
    rintro e w' ⟨rfl, rfl⟩
    go_wp2_with fail
    go_end0
    exact ⟨rfl, R, hM, But.refl _ _, fun b h => .inl h⟩
set_option maxHeartbeats 1000000 in
theorem raw_nil (A2 : Option Addr) (n c2 : Nat) (w : World) :
    Calls Try.prog 25 #[.pointer none, .slice A2 n c2] w fun e w' => e = .returned (.tuple #[]) ∧ w = w' := by
  go_enter Try.func25, Try.ntmps25
  go_wp2_with fail
  refine (mready_nil _).mono ?_
  rintro e w' ⟨rfl, rfl⟩
  go_wp2_with fail
  go_end0
  exact ⟨rfl, rfl⟩
end Go.Proofs.Ytbcddeiicneajaa
