/- The maker: Clone, Bytes, Raw, Len. -/
import Derived.Test.YtlcbfikmljmlpaaDoorTagsGetsM10
import Derived.Deep.QuietTactic
import Derived.BigQuiet
import Derived.Test.YtlcbfikmljmlpaaDoorTagsGetsM1
import Derived.WalkKit
import Derived.Test.YtlcbfikmljmlpaaDoorProg
import Derived.WalkSpells
import Derived.WalkLawsBesides
namespace Go.Proofs.YtlcbfikmljmlpaaDoor
set_option linter.unusedVariables false
open Go.RowKit
/-- a new slice of these bytes -/
theorem eql_nil (A : Option Addr) (n c : Nat) (w : World) : (binOp .eql 40 (.slice A n c) (.slice none 0 0)).run Tryd.prog w = .ok (.bool A.isNone) w :=
  Lib.run_eql_slice_nil w _ _ A n c 0 0 Tryd.underlying40
def NewB (w : World) (l : List UInt8) (v : Value) (w' : World) : Prop :=
  ∃ (A : Option Addr) (c : Nat), v = .slice A l.length c ∧ w'.ownsRow w.heap.size 5 1 (.slice A l.length c) l.length (l.map byteV) ∧ Below w.heap.size w w'
theorem NewB.parts {w w' : World} {l : List UInt8} {v : Value} (h : NewB w l v w') :
    ∃ (A : Option Addr) (c : Nat), v = .slice A l.length c ∧ SeesB w' A l ∧ (∀ a, A = some a → w.heap.size ≤ a.block ∧ a.block < w'.heap.size) ∧ w'.ownsRow w.heap.size 5 1 (.slice A l.length c) l.length (l.map byteV) ∧ Below w.heap.size w w' := by
  obtain ⟨A, c, hv, ho, hb⟩ := h
  exact ⟨A, c, hv, own_sees ho, fun a ha => own_addr ho ha, ho, hb⟩
theorem NewB.none_ (w : World) : NewB w [] (.slice none 0 0) w := ⟨none, 0, rfl, own_nil _ _ _ _, Below.refl _ _⟩
def ClonePost (w : World) (l : List UInt8) (e : Ending) (w' : World) : Prop := ∃ v, e = .returned v ∧ NewB w l v w'
set_option maxHeartbeats 1000000 in
theorem clone_some (a : Addr) (c : Nat) (l : List UInt8) (w : World) (hl : SeesB w (some a) l) (hlen : l.length ≤ 140737488355328) :
    Calls Tryd.prog 66 #[.slice (some a) l.length c] w (ClonePost w l) := by
  have hnil := eql_nil (some a) l.length c
  have hb0 : Below w.heap.size w (w.alloc (.cells #[] 5)) := (Below.refl _ _).alloc (Nat.le_refl _) _
  have ho : (w.alloc (.cells #[] 5)).ownsRow w.heap.size 5 1 (.slice (some ⟨w.heap.size, 0, none⟩) 0 0) 0 [] :=
    ⟨rfl, .inr ⟨w.heap.size, 0, #[], rfl, Nat.le_refl _, heap_alloc_new _ _, Nat.le_refl _, by unfold maxLen; omega, rfl, rfl⟩⟩
  have hl0 := hl.below hb0
  go_enter Tryd.func66, Tryd.ntmps66
  go_wp2_with (at_builtin; refine wpList_app rfl (.tmp 5) (.tmp 6) _ rfl elB rfl ho (some a) l.length c rfl (l.map byteV) hl0 (by simp) (byte_one l) l.length (by omega) (l.map byteV) rfl (by unfold maxLen; omega) (by omega) hb0.size ?_; intro A' c' w' hown hgr hat hb1)
  go_ret
  exact ⟨_, rfl, A', c', rfl, hown, hb0.trans hb1⟩
set_option maxHeartbeats 1000000 in
theorem clone_none (n c : Nat) (w : World) :
    Calls Tryd.prog 66 #[.slice none n c] w (ClonePost w []) := by
  have hnil := eql_nil none n c
  go_enter Tryd.func66, Tryd.ntmps66
  go_wp2
  go_ret
  exact ⟨_, rfl, NewB.none_ w⟩
theorem clone_any (A : Option Addr) (c : Nat) (l : List UInt8) (w : World) (hl : SeesB w A l) (hlen : l.length ≤ 140737488355328) :
    Calls Tryd.prog 66 #[.slice A l.length c] w (ClonePost w l) := by
  cases A with
  | some a => exact clone_some a c l w hl hlen
  | none =>
    have : l = [] := by
      cases l with
      | nil => rfl
      | cons x l => obtain ⟨a, ha, _⟩ := hl 0 (byteV x) rfl; cases ha
    subst this
    exact clone_none _ _ _
def BytesPost (w : World) (l : List UInt8) (e : Ending) (w' : World) : Prop := ∃ v, e = .returned (.tuple #[v, .int .i64 0]) ∧ NewB w l v w'
set_option maxHeartbeats 1000000 in
theorem bytes_ok (g : Nat) (R : Nat → Prop) (l : List UInt8) (w : World) (hm : Mk w g R 0 l) (hlen : l.length ≤ 140737488355328) :
    Calls Tryd.prog 43 #[.pointer (some ⟨g, 0, none⟩)] w (BytesPost w l) := by
  have hc0 := hm.cell0
  obtain ⟨A, c, hg, ho, hr, ha, hz⟩ := hm
  have hc1 : w.cell? ⟨g, 1, none⟩ = some (.slice A l.length c) := by rw [cell_of_row _ _ _ _ _ _ hg]; rfl
  clear hg
  go_enter Tryd.func43, Tryd.ntmps43
  go_wp2_with fail
  refine (fine_is g 0 true _ hc0 rfl).mono ?_
  rintro e w' ⟨rfl, rfl⟩
  go_wp2_with fail
  refine (clone_any A c l _ (own_sees ho) hlen).mono ?_
  rintro e w' ⟨v, rfl, hv⟩
  go_wp2_with fail
  go_ret2
  exact ⟨_, rfl, hv⟩
set_option maxHeartbeats 1000000 in
theorem bytes_bad (g : Nat) (R : Nat → Prop) (err : Int) (l : List UInt8) (w : World) (hm : Mk w g R err l) (h0 : err ≠ 0) :
    Calls Tryd.prog 43 #[.pointer (some ⟨g, 0, none⟩)] w fun e w' => e = .returned (.tuple #[.slice none 0 0, .int .i64 err]) ∧ Below w.heap.size w w' := by
  have hc0 := hm.cell0
  have d0 : (err == 0) = false := by simpa using h0
  go_enter Tryd.func43, Tryd.ntmps43
  go_wp2_with fail
  refine (fine_is g err false _ hc0 d0).mono ?_
  rintro e w' ⟨rfl, rfl⟩
  go_wp2_with fail
  go_quiet (fail)
  go_wp2_with fail
  go_ret2
  exact ⟨rfl, ⟨rfl, rfl, rfl, Nat.le_refl _, fun _ _ => rfl⟩⟩
set_option maxHeartbeats 1000000 in
theorem bytes_nil (w : World) :
    Calls Tryd.prog 43 #[.pointer none] w fun e w' => e = .returned (.tuple #[.slice none 0 0, .int .i64 2]) ∧ w = w' := by
  go_enter Tryd.func43, Tryd.ntmps43
  go_wp2_with fail
  go_ret2
  exact ⟨rfl, rfl⟩
def putRaw (s : Int × List UInt8) (b : List UInt8) : Int × List UInt8 := if s.1 ≠ 0 then s else (0, s.2 ++ b)
set_option maxHeartbeats 1000000 in
theorem raw_any (g : Nat) (R : Nat → Prop) (err : Int) (l : List UInt8) (A2 : Option Addr) (c2 : Nat) (b : List UInt8) (w : World) (hm : Mk w g R err l) (hb : SeesB w A2 b) (hlen : l.length + b.length ≤ 140737488355328) :
    Calls Tryd.prog 41 #[.pointer (some ⟨g, 0, none⟩), .slice A2 b.length c2] w (MkPost w g R (putRaw (err, l) b)) := by
  have hc0 := hm.cell0
  have hM := hm
  obtain ⟨A, c, hg, ho, hr, ha, hz⟩ := hm
  by_cases h0 : err = 0
  · subst h0
    have hp : putRaw (0, l) b = (0, l ++ b) := by rw [putRaw, if_neg (by simp)]
    rw [hp]
    obtain ⟨m, hm'⟩ : ∃ m, m = l ++ b := ⟨_, rfl⟩
    have hmm : m.map byteV = l.map byteV ++ b.map byteV := by rw [hm']; simp
    have hml : l.length + b.length = m.length := by rw [hm']; simp
    rw [← hm']
    have HMM := hid hmm
    have HML := hid hml
    have hm3 : m.length ≤ 140737488355328 := by omega
    clear hmm hml hm' hlen
    have hc1 : w.cell? ⟨g, 1, none⟩ = some (.slice A l.length c) := by rw [cell_of_row _ _ _ _ _ _ hg]; rfl
    have HG := hid hg
    clear hg hM
    go_enter Tryd.func41, Tryd.ntmps41
    go_wp2_with fail
    refine (mready_is g 0 true _ hc0 rfl).mono ?_
    rintro e w' ⟨rfl, rfl⟩
    go_wp2_with (at_builtin; refine wpList_app rfl (.tmp 10) (.tmp 11) _ rfl elB rfl ho A2 b.length c2 rfl (b.map byteV) hb (by simp) (byte_one b) m.length HML.out (m.map byteV) HMM.out.symm (by unfold maxLen; omega) (by omega) (Nat.zero_le _) ?_; intro A' c' w' hown hgr hat hb0; obtain ⟨⟨hp1, hp2⟩, R', hmk', hbut', hR'⟩ := mk_grow HG.out ho hr ha hz (Below.refl _ _) hown hgr hat)
    go_end0
    exact ⟨rfl, R', hmk', hbut', hR'⟩
  · have hp : putRaw (err, l) b = (err, l) := by rw [putRaw, if_pos h0]
    rw [hp]
    have d0 : (err == 0) = false := by simpa using h0
    go_enter Tryd.func41, Tryd.ntmps41
    go_wp2_with fail
    refine (mready_is g err false _ hc0 d0).mono ?_
    rintro e w' ⟨rfl, rfl⟩
    go_wp2_with fail
    go_end0
    exact ⟨rfl, R, hM, But.refl _ _, fun b h => .inl h⟩
set_option maxHeartbeats 1000000 in
theorem raw_nil (A2 : Option Addr) (n c2 : Nat) (w : World) :
    Calls Tryd.prog 41 #[.pointer none, .slice A2 n c2] w fun e w' => e = .returned (.tuple #[]) ∧ w = w' := by
  go_enter Tryd.func41, Tryd.ntmps41
  go_wp2_with fail
  refine (mready_nil _).mono ?_
  rintro e w' ⟨rfl, rfl⟩
  go_wp2_with fail
  go_end0
  exact ⟨rfl, rfl⟩
end Go.Proofs.YtlcbfikmljmlpaaDoor
/- The maker: U, whole. -/
namespace Go.Proofs.YtlcbfikmljmlpaaDoor
set_option linter.unusedVariables false
open Go.RowKit
theorem mk_new (w : World) : Mk (w.alloc (.cells #[.int .i64 0, .slice none 0 0] 65)) w.heap.size (fun b => b = w.heap.size) 0 [] :=
  ⟨none, 0, heap_alloc_new _ _, own_nil _ _ _ _, rfl, fun a ha => (by cases ha), fun b hb => by subst hb; simp⟩
theorem makerU_any (g : Nat) (R : Nat → Prop) (err : Int) (l : List UInt8) (v : Nat) (n : Int) (w : World) (hm : Mk w g R err l) (hv : v < 18446744073709551616) (hl : l.length ≤ 140737488355000) :
    Calls Tryd.prog 44 #[.pointer (some ⟨g, 0, none⟩), .int .u64 (v : Int), .int .i64 n] w (MkPost w g R (putU (err, l) v n)) := by
  by_cases hbad : err ≠ 0 ∨ n < 1 ∨ 8 < n ∨ (n < 8 ∧ 256 ^ n.toNat ≤ v)
  · exact makerU_bad g R err l v n w hm hv hbad
  · obtain ⟨N, rfl⟩ := Int.eq_ofNat_of_zero_le (show 0 ≤ n by omega)
    obtain rfl : err = 0 := by omega
    have hp : putU (0, l) v (N : Int) = (0, l ++ bytesLE v N) := by
      rw [putU, if_neg (by simp), if_neg (by omega), if_neg (fun h => hbad (.inr (.inr (.inr h))))]; rfl
    rw [hp]
    refine makerU_ok g R l v N w hm hv (by omega) ?_ hl
    by_cases h8 : N = 8
    · exact .inl h8
    · right
      rcases Nat.lt_or_ge v (256 ^ N) with h | h
      · exact h
      · exact absurd (.inr (.inr (.inr ⟨by omega, by simpa using h⟩))) hbad
set_option maxHeartbeats 1000000 in
theorem makerU_nil (v n : Int) (w : World) :
    Calls Tryd.prog 44 #[.pointer none, .int .u64 v, .int .i64 n] w fun e w' => e = .returned (.tuple #[]) ∧ w = w' := by
  go_enter Tryd.func44, Tryd.ntmps44
  go_wp2_with fail
  refine (mready_nil _).mono ?_
  rintro e w' ⟨rfl, rfl⟩
  go_wp2_with fail
  exact bodyPost_ret (results_none rfl _ _ _) rfl ⟨rfl, rfl⟩
end Go.Proofs.YtlcbfikmljmlpaaDoor
/- The maker: Text (where there is no I). -/
namespace Go.Proofs.YtlcbfikmljmlpaaDoor
set_option linter.unusedVariables false
open Go.RowKit
def putText (s : Int × List UInt8) (b : List UInt8) (n : Int) : Int × List UInt8 := putRaw (putU s b.length n) b
set_option maxHeartbeats 1000000 in
theorem text_any (g : Nat) (R : Nat → Prop) (err : Int) (l : List UInt8) (s : ByteArray) (n : Int) (w : World) (hm : Mk w g R err l) (hl : l.length + s.size ≤ 140737488355000) :
    Calls Tryd.prog 42 #[.pointer (some ⟨g, 0, none⟩), .string s, .int .i64 n] w (MkPost w g R (putText (err, l) s.data.toList n)) := by
  have hc0 := hm.cell0
  have hsz : s.data.toList.length = s.size := by rw [Array.length_toList]; rfl
  by_cases h0 : err = 0
  · subst h0
    go_enter Tryd.func42, Tryd.ntmps42
    go_wp2_with fail
    refine (mready_is g 0 true _ hc0 rfl).mono ?_
    rintro e w' ⟨rfl, rfl⟩
    go_wp2_with fail
    have hlen : s.size ≤ 9223372036854775807 := by omega
    refine (makerU_any g R 0 l s.size n _ hm (by omega) (by omega)).mono ?_
    rintro e w1 ⟨rfl, R1, hm1, hb1, hR1⟩
    obtain ⟨c, w2, hconv, hb2, hs2, hsl⟩ := conv_sb s w1
    have hlt := hm1.lt
    have hm2 := hm1.below hb2
    have hU : putU (0, l) s.size n = putU (0, l) s.data.toList.length n := by rw [hsz]
    have hUl : (putU (0, l) s.size n).2.length ≤ l.length + 8 := by
      unfold putU
      rw [if_neg (by simp)]
      split
      · simp
      · split
        · simp
        · simp only [List.length_append, bytesLE_length]
          omega
    have HU := hid hU
    have HSL := hid hsl
    clear hU hsl hsz
    go_wp2_with fail
    rw [← HSL.out]
    refine (raw_any g R1 _ _ _ c s.data.toList w2 hm2 hs2 (by rw [HSL.out]; omega)).mono ?_
    rintro e w3 ⟨rfl, R3, hm3, hb3, hR3⟩
    go_wp2_with fail
    go_end0
    refine ⟨rfl, R3, ?_, (hb1.trans (But.of_below (R := fun _ => False) hb2) (fun n h => h.elim)).trans hb3 hR1, fun b hb => ?_⟩
    · unfold putText
      rw [← HU.out]; exact hm3
    · rcases hR3 b hb with h | h
      · exact hR1 b h
      · exact .inr (Nat.le_trans hb1.size (Nat.le_trans hb2.size h))
  · have hp : putText (err, l) s.data.toList n = (err, l) := by
      unfold putText putRaw putU
      rw [if_pos h0, if_pos h0]
    rw [hp]
    have d0 : (err == 0) = false := by simpa using h0
    go_enter Tryd.func42, Tryd.ntmps42
    go_wp2_with fail
    refine (mready_is g err false _ hc0 d0).mono ?_
    rintro e w' ⟨rfl, rfl⟩
    go_wp2_with fail
    exact bodyPost_ret (results_none rfl _ _ _) rfl ⟨rfl, R, hm, But.refl _ _, fun b h => .inl h⟩
end Go.Proofs.YtlcbfikmljmlpaaDoor

namespace Go.Proofs.YtlcbfikmljmlpaaDoor
set_option linter.unusedVariables false
/-- one step -/
def stepI (x : Int) : Int := if x % 2 = 1 then bits .xor .u32 (x / 2) 3988292384 else x / 2
def stepsI : Nat → Int → Int
  | 0, x => x
  | n + 1, x => stepI (stepsI n x)
theorem xor32 (a b : Int) (h1 : 0 ≤ a) (h2 : a < 4294967296) (h3 : 0 ≤ b) (h4 : b < 4294967296) : bits .xor .u32 a b = ((a.toNat ^^^ b.toNat : Nat) : Int) := by
  obtain ⟨A, rfl⟩ := Int.eq_ofNat_of_zero_le h1
  obtain ⟨B, rfl⟩ := Int.eq_ofNat_of_zero_le h3
  simpa using u32_xor_nat A B (by omega) (by omega)
theorem xor32_range (a b : Int) (h1 : 0 ≤ a) (h2 : a < 4294967296) (h3 : 0 ≤ b) (h4 : b < 4294967296) : 0 ≤ bits .xor .u32 a b ∧ bits .xor .u32 a b < 4294967296 := by
  rw [xor32 a b h1 h2 h3 h4]
  have := Nat.xor_lt_two_pow (x := a.toNat) (y := b.toNat) (n := 32) (by omega) (by omega)
  omega
theorem stepI_range (x : Int) (h0 : 0 ≤ x) (h1 : x < 4294967296) : 0 ≤ stepI x ∧ stepI x < 4294967296 := by
  unfold stepI
  split
  · exact xor32_range _ _ (by omega) (by omega) (by omega) (by omega)
  · omega
theorem stepsI_range (n : Nat) (x : Int) (h0 : 0 ≤ x) (h1 : x < 4294967296) : 0 ≤ stepsI n x ∧ stepsI n x < 4294967296 := by
  induction n with
  | zero => exact ⟨h0, h1⟩
  | succ n ih => exact stepI_range _ ih.1 ih.2
theorem and1_u32 (x : Int) (h0 : 0 ≤ x) (h1 : x < 4294967296) : bits .and .u32 x 1 = x % 2 := by
  obtain ⟨A, rfl⟩ := Int.eq_ofNat_of_zero_le h0
  have := u32_and_nat A 1 (by omega) (by omega)
  simpa [Nat.and_one_is_mod] using this
end Go.Proofs.YtlcbfikmljmlpaaDoor
/- Contracts of crc.Step, crc.Make. -/
namespace Go.Proofs.YtlcbfikmljmlpaaDoor
set_option linter.unusedVariables false
open Go.RowKit
set_option maxHeartbeats 400000 in
theorem step_any (x : Int) (w : World) (h0 : 0 ≤ x) (h1 : x < 4294967296) :
    Calls Tryd.prog 53 #[.int .u32 x] w fun e w' => e = .returned (.int .u32 (stepI x)) ∧ w = w' := by
  have ha := and1_u32 x h0 h1
  by_cases h : x % 2 = 1
  · have h' : (x % 2 == 1) = true := beq_iff_eq.2 h
    go_enter Tryd.func53, Tryd.ntmps53
    go_wp2
    go_ret
    exact ⟨by rw [stepI, if_pos h]; rfl, rfl⟩
  · have h' : (x % 2 == 1) = false := beq_eq_false_iff_ne.2 h
    go_enter Tryd.func53, Tryd.ntmps53
    go_wp2
    go_ret
    exact ⟨by rw [stepI, if_neg h]; rfl, rfl⟩
def zeros256 : Array Value := Array.replicate 256 (.int .u32 0)
theorem zeroTable (w : World) : (zeroValue 81).run Tryd.prog w = .ok (.agg zeros256) w := by kernel_rfl
/-- block g is the table, as far as place k -/
def TabTo (w : World) (g k : Nat) : Prop :=
  ∃ cs : Array Value, w.heap[g]? = some (.cells cs 81 (0, 0)) ∧ cs.size = 256 ∧ ∀ j : Nat, j < k → cs[j]? = some (.int .u32 (stepsI 8 j))
def Tab (w : World) (g : Nat) : Prop := TabTo w g 256
theorem TabTo.next {w : World} {g k : Nat} (h : TabTo w g k) (hk : k < 256) : TabTo (w.setCell ⟨g, k, none⟩ (.int .u32 (stepsI 8 k))) g (k + 1) := by
  obtain ⟨cs, hcs, hsz, hv⟩ := h
  refine ⟨_, heap_setCell_same _ _ _ _ _ _ hcs, by simpa using hsz, fun j hj => ?_⟩
  by_cases hjk : j = k
  · subst hjk; simp [hsz, hk]
  · rw [Array.getElem?_setIfInBounds_ne (fun h => hjk h.symm)]; exact hv j (by omega)
theorem Tab.cell {w : World} {g : Nat} (h : Tab w g) (j : Nat) (hj : j < 256) : w.cell? ⟨g, j, none⟩ = some (.int .u32 (stepsI 8 j)) := by
  obtain ⟨cs, hcs, hsz, hv⟩ := h
  rw [cell_of_row w g j cs _ _ hcs]; exact hv j hj
theorem Tab.lt {w : World} {g : Nat} (h : Tab w g) : g < w.heap.size := by
  obtain ⟨cs, hcs, _⟩ := h
  exact (Array.getElem?_eq_some_iff.1 hcs).1
theorem Tab.keep {w w' : World} {g B : Nat} (h : Tab w g) (hb : Below B w w') (hg : g < B) : Tab w' g := by
  obtain ⟨cs, hcs, hx⟩ := h
  exact ⟨cs, (hb.block g hg).trans hcs, hx⟩
set_option maxHeartbeats 400000 in
set_option maxRecDepth 20000 in
theorem make_any (w : World) :
    Calls Tryd.prog 25 #[] w fun e w' => e = .returned (.pointer (some ⟨w.heap.size, 0, none⟩)) ∧ Below w.heap.size w w' ∧ Tab w' w.heap.size := by
  have hz := zeroTable
  go_enter Tryd.func25, Tryd.ntmps25
  go_wp2
  go_loopw [6] (fun i wr => ∃ k : Nat, k ≤ 256 ∧ i = .int .i64 k ∧ Below w.heap.size w wr ∧ TabTo wr w.heap.size k)
    (fun i _ => 256 - (intOf i).toNat)
  case atStart => exact ⟨0, by omega, rfl, (Below.refl _ _).alloc (Nat.le_refl _) _, ⟨zeros256, heap_alloc_new _ _, by decide +kernel, fun j hj => absurd hj (by omega)⟩⟩
  case round =>
    obtain ⟨k, hk, rfl, hb, ht⟩ := hrel
    have HT := hid ht
    obtain ⟨cs, hcs, hsz, hv⟩ := ht
    clear hv
    by_cases hlt : k < 256
    · obtain ⟨v0, hc⟩ : ∃ v0, wr.cell? ⟨w.heap.size, k, none⟩ = some v0 := ⟨_, (cell_of_row wr _ k cs _ _ hcs).trans (Array.getElem?_eq_getElem (by omega))⟩
      have hf : wr.frozen? ⟨w.heap.size, k, none⟩ = false := frozen_of_row wr _ k cs _ hcs
      clear hcs hsz
      have hd : decide ((k : Int) < 256) = true := by simp; omega
      go_wp2
      go_loop [3, 11] (fun x j => ∃ n : Nat, n ≤ 8 ∧ j = .int .i64 n ∧ x = .int .u32 (stepsI n k)) (fun _ j => 8 - (intOf j).toNat)
      case atStart => exact ⟨0, by omega, rfl, rfl⟩
      case round =>
        obtain ⟨n, hn, rfl, rfl⟩ := hrel
        have hr := stepsI_range n k (by omega) (by omega)
        by_cases hln : n < 8
        · go_wp2_with (go_at_call 53; refine (step_any _ _ (by omega) (by omega)).mono ?_; rintro e w' ⟨rfl, rfl⟩)
          go_round
          case rel => exact ⟨n + 1, by omega, by go_num, rfl⟩
          case measure => simp [intOf]; omega
        · obtain rfl : n = 8 := by omega
          go_wp2
          go_roundw
          case rel => exact ⟨k + 1, by omega, by go_num, hb.setCell (Nat.le_refl _) _, HT.out.next hlt⟩
          case measure => simp [intOf]; omega
    · obtain rfl : k = 256 := by omega
      clear hcs hsz
      go_wp2
      go_ret
      exact ⟨rfl, hb, HT.out⟩
end Go.Proofs.YtlcbfikmljmlpaaDoor
