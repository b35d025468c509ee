/- The maker: Clone, Bytes, Raw, Len. -/
import Derived.Test.YtkmhmehofipehaaDoorFileBuildsM2
import Derived.Deep.QuietTactic
import Derived.BigQuiet
import Derived.Laws.Bits64b
namespace Go.Proofs.YtkmhmehofipehaaDoor
set_option linter.unusedVariables false
open Go.RowKit
/-- a new slice of these bytes -/
theorem eql_nil (A : Option Addr) (n c : Nat) (w : World) : (binOp .eql 32 (.slice A n c) (.slice none 0 0)).run Tryd.prog w = .ok (.bool A.isNone) w :=
  Lib.run_eql_slice_nil w _ _ A n c 0 0 Tryd.underlying32
def NewB (w : World) (l : List UInt8) (v : Value) (w' : World) : Prop :=
  ∃ (A : Option Addr) (c : Nat), v = .slice A l.length c ∧ w'.ownsRow w.heap.size 5 1 (.slice A l.length c) l.length (l.map byteV) ∧ Below w.heap.size w w'
theorem NewB.parts {w w' : World} {l : List UInt8} {v : Value} (h : NewB w l v w') :
    ∃ (A : Option Addr) (c : Nat), v = .slice A l.length c ∧ SeesB w' A l ∧ (∀ a, A = some a → w.heap.size ≤ a.block ∧ a.block < w'.heap.size) ∧ w'.ownsRow w.heap.size 5 1 (.slice A l.length c) l.length (l.map byteV) ∧ Below w.heap.size w w' := by
  obtain ⟨A, c, hv, ho, hb⟩ := h
  exact ⟨A, c, hv, own_sees ho, fun a ha => own_addr ho ha, ho, hb⟩
theorem NewB.none_ (w : World) : NewB w [] (.slice none 0 0) w := ⟨none, 0, rfl, own_nil _ _ _ _, Below.refl _ _⟩
def ClonePost (w : World) (l : List UInt8) (e : Ending) (w' : World) : Prop := ∃ v, e = .returned v ∧ NewB w l v w'
set_option maxHeartbeats 1000000 in
theorem clone_some (a : Addr) (c : Nat) (l : List UInt8) (w : World) (hl : SeesB w (some a) l) (hlen : l.length ≤ 140737488355328) :
    Calls Tryd.prog 78 #[.slice (some a) l.length c] w (ClonePost w l) := by
  have hnil := eql_nil (some a) l.length c
  have hb0 : Below w.heap.size w (w.alloc (.cells #[] 5)) := (Below.refl _ _).alloc (Nat.le_refl _) _
  have ho : (w.alloc (.cells #[] 5)).ownsRow w.heap.size 5 1 (.slice (some ⟨w.heap.size, 0, none⟩) 0 0) 0 [] :=
    ⟨rfl, .inr ⟨w.heap.size, 0, #[], rfl, Nat.le_refl _, heap_alloc_new _ _, Nat.le_refl _, by unfold maxLen; omega, rfl, rfl⟩⟩
  have hl0 := hl.below hb0
  go_enter Tryd.func78, Tryd.ntmps78
  go_wp2_with (at_builtin; refine wpList_app rfl (.tmp 5) (.tmp 6) _ rfl elB rfl ho (some a) l.length c rfl (l.map byteV) hl0 (by simp) (byte_one l) l.length (by omega) (l.map byteV) rfl (by unfold maxLen; omega) (by omega) hb0.size ?_; intro A' c' w' hown hgr hat hb1)
  go_ret
  exact ⟨_, rfl, A', c', rfl, hown, hb0.trans hb1⟩
set_option maxHeartbeats 1000000 in
theorem clone_none (n c : Nat) (w : World) :
    Calls Tryd.prog 78 #[.slice none n c] w (ClonePost w []) := by
  have hnil := eql_nil none n c
  go_enter Tryd.func78, Tryd.ntmps78
  go_wp2
  go_ret
  exact ⟨_, rfl, NewB.none_ w⟩
theorem clone_any (A : Option Addr) (c : Nat) (l : List UInt8) (w : World) (hl : SeesB w A l) (hlen : l.length ≤ 140737488355328) :
    Calls Tryd.prog 78 #[.slice A l.length c] w (ClonePost w l) := by
  cases A with
  | some a => exact clone_some a c l w hl hlen
  | none =>
    have : l = [] := by
      cases l with
      | nil => rfl
      | cons x l => obtain ⟨a, ha, _⟩ := hl 0 (byteV x) rfl; cases ha
    subst this
    exact clone_none _ _ _
def BytesPost (w : World) (l : List UInt8) (e : Ending) (w' : World) : Prop := ∃ v, e = .returned (.tuple #[v, .int .i64 0]) ∧ NewB w l v w'
set_option maxHeartbeats 1000000 in
theorem bytes_ok (g : Nat) (R : Nat → Prop) (l : List UInt8) (w : World) (hm : Mk w g R 0 l) (hlen : l.length ≤ 140737488355328) :
    Calls Tryd.prog 47 #[.pointer (some ⟨g, 0, none⟩)] w (BytesPost w l) := by
  have hc0 := hm.cell0
  obtain ⟨A, c, hg, ho, hr, ha, hz⟩ := hm
  have hc1 : w.cell? ⟨g, 1, none⟩ = some (.slice A l.length c) := by rw [cell_of_row _ _ _ _ _ _ hg]; rfl
  clear hg
  go_enter Tryd.func47, Tryd.ntmps47
  go_wp2_with fail
  refine (fine_is g 0 true _ hc0 rfl).mono ?_
  rintro e w' ⟨rfl, rfl⟩
  go_wp2_with fail
  refine (clone_any A c l _ (own_sees ho) hlen).mono ?_
  rintro e w' ⟨v, rfl, hv⟩
  go_wp2_with fail
  go_ret2
  exact ⟨_, rfl, hv⟩
set_option maxHeartbeats 1000000 in
theorem bytes_bad (g : Nat) (R : Nat → Prop) (err : Int) (l : List UInt8) (w : World) (hm : Mk w g R err l) (h0 : err ≠ 0) :
    Calls Tryd.prog 47 #[.pointer (some ⟨g, 0, none⟩)] w fun e w' => e = .returned (.tuple #[.slice none 0 0, .int .i64 err]) ∧ Below w.heap.size w w' := by
  have hc0 := hm.cell0
  have d0 : (err == 0) = false := by simpa using h0
  go_enter Tryd.func47, Tryd.ntmps47
  go_wp2_with fail
  refine (fine_is g err false _ hc0 d0).mono ?_
  rintro e w' ⟨rfl, rfl⟩
  go_wp2_with fail
  go_quiet (fail)
  go_wp2_with fail
  go_ret2
  exact ⟨rfl, ⟨rfl, rfl, rfl, Nat.le_refl _, fun _ _ => rfl⟩⟩
set_option maxHeartbeats 1000000 in
theorem bytes_nil (w : World) :
    Calls Tryd.prog 47 #[.pointer none] w fun e w' => e = .returned (.tuple #[.slice none 0 0, .int .i64 2]) ∧ w = w' := by
  go_enter Tryd.func47, Tryd.ntmps47
  go_wp2_with fail
  go_ret2
  exact ⟨rfl, rfl⟩
def putRaw (s : Int × List UInt8) (b : List UInt8) : Int × List UInt8 := if s.1 ≠ 0 then s else (0, s.2 ++ b)
set_option maxHeartbeats 1000000 in
theorem raw_any (g : Nat) (R : Nat → Prop) (err : Int) (l : List UInt8) (A2 : Option Addr) (c2 : Nat) (b : List UInt8) (w : World) (hm : Mk w g R err l) (hb : SeesB w A2 b) (hlen : l.length + b.length ≤ 140737488355328) :
    Calls Tryd.prog 45 #[.pointer (some ⟨g, 0, none⟩), .slice A2 b.length c2] w (MkPost w g R (putRaw (err, l) b)) := by
  have hc0 := hm.cell0
  have hM := hm
  obtain ⟨A, c, hg, ho, hr, ha, hz⟩ := hm
  by_cases h0 : err = 0
  · subst h0
    have hp : putRaw (0, l) b = (0, l ++ b) := by rw [putRaw, if_neg (by simp)]
    rw [hp]
    obtain ⟨m, hm'⟩ : ∃ m, m = l ++ b := ⟨_, rfl⟩
    have hmm : m.map byteV = l.map byteV ++ b.map byteV := by rw [hm']; simp
    have hml : l.length + b.length = m.length := by rw [hm']; simp
    rw [← hm']
    have HMM := hid hmm
    have HML := hid hml
    have hm3 : m.length ≤ 140737488355328 := by omega
    clear hmm hml hm' hlen
    have hc1 : w.cell? ⟨g, 1, none⟩ = some (.slice A l.length c) := by rw [cell_of_row _ _ _ _ _ _ hg]; rfl
    have HG := hid hg
    clear hg hM
    go_enter Tryd.func45, Tryd.ntmps45
    go_wp2_with fail
    refine (mready_is g 0 true _ hc0 rfl).mono ?_
    rintro e w' ⟨rfl, rfl⟩
    go_wp2_with (at_builtin; refine wpList_app rfl (.tmp 10) (.tmp 11) _ rfl elB rfl ho A2 b.length c2 rfl (b.map byteV) hb (by simp) (byte_one b) m.length HML.out (m.map byteV) HMM.out.symm (by unfold maxLen; omega) (by omega) (Nat.zero_le _) ?_; intro A' c' w' hown hgr hat hb0; obtain ⟨⟨hp1, hp2⟩, R', hmk', hbut', hR'⟩ := mk_grow HG.out ho hr ha hz (Below.refl _ _) hown hgr hat)
    go_end0
    exact ⟨rfl, R', hmk', hbut', hR'⟩
  · have hp : putRaw (err, l) b = (err, l) := by rw [putRaw, if_pos h0]
    rw [hp]
    have d0 : (err == 0) = false := by simpa using h0
    go_enter Tryd.func45, Tryd.ntmps45
    go_wp2_with fail
    refine (mready_is g err false _ hc0 d0).mono ?_
    rintro e w' ⟨rfl, rfl⟩
    go_wp2_with fail
    go_end0
    exact ⟨rfl, R, hM, But.refl _ _, fun b h => .inl h⟩
set_option maxHeartbeats 1000000 in
theorem raw_nil (A2 : Option Addr) (n c2 : Nat) (w : World) :
    Calls Tryd.prog 45 #[.pointer none, .slice A2 n c2] w fun e w' => e = .returned (.tuple #[]) ∧ w = w' := by
  go_enter Tryd.func45, Tryd.ntmps45
  go_wp2_with fail
  refine (mready_nil _).mono ?_
  rintro e w' ⟨rfl, rfl⟩
  go_wp2_with fail
  go_end0
  exact ⟨rfl, rfl⟩
end Go.Proofs.YtkmhmehofipehaaDoor
/- A taker of fields: what its small functions do. -/
namespace Go.Proofs.YtkmhmehofipehaaDoor
set_option linter.unusedVariables false
open Go.RowKit
theorem SeesB.cutTo {w : World} {A : Option Addr} {l : List UInt8} (h : SeesB w A l) (k n : Nat) : SeesB w (A.map (·.add k)) ((l.drop k).take n) := by
  intro i v hv
  have hin : i < n := by
    rcases Nat.lt_or_ge i n with h1 | h1
    · exact h1
    · rw [List.getElem?_eq_none (by simp; omega)] at hv; cases hv
  rw [List.getElem?_map, List.getElem?_take_of_lt hin, List.getElem?_drop, ← List.getElem?_map] at hv
  obtain ⟨a, ha, hc⟩ := h _ v hv
  exact ⟨a.add k, by rw [ha]; rfl, by rw [addr_add]; exact hc⟩
theorem own_cap {w : World} {base n size : Nat} {e : TypeId} {A : Option Addr} {c : Nat} {xs : List Value} (h : w.ownsRow base e size (.slice A n c) n xs) : n ≤ c ∧ c ≤ maxLen := by
  rcases h.2 with ⟨h', h0⟩ | ⟨g, cap, cur, h', hb, hg, h1, h2, _⟩
  · injection h' with _ _ h3
    subst h0 h3; exact ⟨Nat.le_refl _, by unfold maxLen; omega⟩
  · injection h' with _ _ h3
    subst h3; exact ⟨h1, h2⟩
/-- block g is a taker with this error, at this place of these bytes -/
def Tk (w : World) (g : Nat) (err : Int) (p : Nat) (l : List UInt8) : Prop :=
  ∃ (A : Option Addr) (c : Nat), w.heap[g]? = some (.cells #[.int .i64 err, .slice A l.length c, .int .i64 (p : Int)] 156 (0, 0)) ∧ SeesB w A l ∧ l.length ≤ c ∧ c ≤ maxLen ∧ p ≤ l.length ∧ ∀ a, A = some a → a.block ≠ g
def Only (g n : Nat) : Prop := n = g
theorem Tk.cells {w : World} {g : Nat} {err : Int} {p : Nat} {l : List UInt8} (h : Tk w g err p l) :
    ∃ (A : Option Addr) (c : Nat), w.cell? ⟨g, 0, none⟩ = some (.int .i64 err) ∧ w.cell? ⟨g, 1, none⟩ = some (.slice A l.length c) ∧ w.cell? ⟨g, 2, none⟩ = some (.int .i64 (p : Int)) ∧ SeesB w A l ∧ l.length ≤ c ∧ c ≤ maxLen ∧ p ≤ l.length ∧ ∀ i, w.frozen? ⟨g, i, none⟩ = false := by
  obtain ⟨A, c, hg, hs, h1, h2, h3, h4⟩ := h
  exact ⟨A, c, by rw [cell_of_row _ _ _ _ _ _ hg]; rfl, by rw [cell_of_row _ _ _ _ _ _ hg]; rfl, by rw [cell_of_row _ _ _ _ _ _ hg]; rfl, hs, h1, h2, h3, fun i => frozen_of_row _ _ _ _ _ hg⟩
theorem Tk.setErr {w : World} {g : Nat} {err : Int} {p : Nat} {l : List UInt8} (h : Tk w g err p l) (e : Int) : Tk (w.setCell ⟨g, 0, none⟩ (.int .i64 e)) g e p l ∧ But (Only g) w (w.setCell ⟨g, 0, none⟩ (.int .i64 e)) := by
  obtain ⟨A, c, hg, hs, h1, h2, h3, h4⟩ := h
  have hb : But (Only g) w (w.setCell ⟨g, 0, none⟩ (.int .i64 e)) := ⟨rfl, rfl, rfl, by simp [World.setCell], fun b _ hb => heap_setCell_other w _ b _ (fun h => hb h)⟩
  exact ⟨⟨A, c, heap_setCell_same w g 0 _ _ _ hg, Sees.but hs hb (fun a ha h => h4 a ha h), h1, h2, h3, h4⟩, hb⟩
theorem Tk.setAt {w : World} {g : Nat} {err : Int} {p : Nat} {l : List UInt8} (h : Tk w g err p l) (q : Nat) (hq : q ≤ l.length) : Tk (w.setCell ⟨g, 2, none⟩ (.int .i64 (q : Int))) g err q l ∧ But (Only g) w (w.setCell ⟨g, 2, none⟩ (.int .i64 (q : Int))) := by
  obtain ⟨A, c, hg, hs, h1, h2, h3, h4⟩ := h
  have hb : But (Only g) w (w.setCell ⟨g, 2, none⟩ (.int .i64 (q : Int))) := ⟨rfl, rfl, rfl, by simp [World.setCell], fun b _ hb => heap_setCell_other w _ b _ (fun h => hb h)⟩
  exact ⟨⟨A, c, heap_setCell_same w g 2 _ _ _ hg, Sees.but hs hb (fun a ha h => h4 a ha h), h1, h2, hq, h4⟩, hb⟩
theorem Tk.below {w w' : World} {g : Nat} {err : Int} {p : Nat} {l : List UInt8} (h : Tk w g err p l) (hb : Below w.heap.size w w') : Tk w' g err p l := by
  obtain ⟨A, c, hg, hs, h1, h2, h3, h4⟩ := h
  exact ⟨A, c, (hb.block g (Array.getElem?_eq_some_iff.1 hg).1).trans hg, hs.below hb, h1, h2, h3, h4⟩
set_option maxHeartbeats 400000 in
theorem tready_is (g : Nat) (err : Int) (b : Bool) (w : World) (hc0 : w.cell? ⟨g, 0, none⟩ = some (.int .i64 err)) (h : (err == 0) = b) :
    Calls Tryd.prog 100 #[.pointer (some ⟨g, 0, none⟩)] w fun x w' => x = .returned (.bool b) ∧ w = w' := by
  go_enter Tryd.func100, Tryd.ntmps100
  go_wp2
  go_ret
  exact ⟨rfl, rfl⟩
set_option maxHeartbeats 400000 in
theorem tready_nil (w : World) :
    Calls Tryd.prog 100 #[.pointer none] w fun x w' => x = .returned (.bool false) ∧ w = w' := by
  go_enter Tryd.func100, Tryd.ntmps100
  go_wp2
  go_ret
  exact ⟨rfl, rfl⟩
def TakePost (w : World) (l : List UInt8) (e : Ending) (w' : World) : Prop := ∃ g, e = .returned (.pointer (some ⟨g, 0, none⟩)) ∧ w.heap.size ≤ g ∧ Tk w' g 0 0 l ∧ Below w.heap.size w w'
set_option maxHeartbeats 1000000 in
theorem take_any (A : Option Addr) (c : Nat) (l : List UInt8) (w : World) (hl : SeesB w A l) (hlen : l.length ≤ 140737488355328) :
    Calls Tryd.prog 68 #[.slice A l.length c] w (TakePost w l) := by
  go_enter Tryd.func68, Tryd.ntmps68
  go_wp2_with fail
  refine (clone_any A c l _ hl hlen).mono ?_
  rintro e w1 ⟨v, rfl, hv⟩
  obtain ⟨A1, c1, rfl, hs, hA, ho, hb⟩ := hv.parts
  go_wp2_with fail
  go_ret
  refine ⟨w1.heap.size, rfl, hb.size, ⟨A1, c1, heap_alloc_new _ _, SeesB.below hs ((Below.refl _ w1).alloc (Nat.le_refl _) _), (own_cap ho).1, (own_cap ho).2, Nat.zero_le _, fun a ha => ?_⟩, hb.alloc hb.size _⟩
  have := (hA a ha).2
  omega
/-- what a taker that is fine gives of the next n bytes -/
def tnext (p : Nat) (l : List UInt8) (n : Nat) : (Int × Nat) × List UInt8 := if l.length - p < n then ((10, p), []) else ((0, p + n), (l.drop p).take n)
def NextPost (w : World) (g : Nat) (l : List UInt8) (r : (Int × Nat) × List UInt8) (e : Ending) (w' : World) : Prop :=
  ∃ (A : Option Addr) (c : Nat), e = .returned (.slice A r.2.length c) ∧ SeesB w' A r.2 ∧ r.2.length ≤ c ∧ c ≤ maxLen ∧ Tk w' g r.1.1 r.1.2 l ∧ But (Only g) w w'
set_option maxHeartbeats 1000000 in
theorem tnext_any (g : Nat) (p n : Nat) (l : List UInt8) (w : World) (h : Tk w g 0 p l) (hlen : l.length ≤ 140737488355328) (hn : n ≤ 9223372036854775807) :
    Calls Tryd.prog 101 #[.pointer (some ⟨g, 0, none⟩), .int .i64 (n : Int)] w (NextPost w g l (tnext p l n)) := by
  obtain ⟨A, c, hc0, hc1, hc2, hs, h1, h2, h3, hf⟩ := h.cells
  have hf0 := hf 0
  have hf2 := hf 2
  by_cases hlt : l.length - p < n
  · rw [tnext, if_pos hlt]
    have d1 : decide ((l.length : Int) - p < n) = true := by simp; omega
    go_enter Tryd.func101, Tryd.ntmps101
    go_wp2_with fail
    go_quiet (fail)
    go_wp2_with fail
    have hdr : Below w.heap.size w (w.drewN nq) := ⟨rfl, rfl, rfl, Nat.le_refl _, fun _ _ => rfl⟩
    refine (fail_ok g 10 (w.drewN nq) hc0 hf0).mono ?_
    rintro e w' ⟨rfl, rfl⟩
    go_wp2_with fail
    have hT := (h.below hdr).setErr 10
    go_ret
    exact ⟨none, 0, rfl, Sees.nil _ _, Nat.le_refl _, by unfold maxLen; omega, hT.1, (But.of_below (R := Only g) hdr).trans hT.2 (fun n h => .inl h)⟩
  · rw [tnext, if_neg hlt]
    have d1 : decide ((n : Int) > (l.length : Int) - p) = false := by simp; omega
    have hw2 : wrap64 ((p : Int) + n) = ((p + n : Nat) : Int) := by unfold wrap64; unfold maxLen at h2; omega
    go_enter Tryd.func101, Tryd.ntmps101
    go_wp2_with fail
    go_quiet (fail)
    go_wp2_with fail
    have hdr : Below w.heap.size w (w.drewN nq) := ⟨rfl, rfl, rfl, Nat.le_refl _, fun _ _ => rfl⟩
    have hT := (h.below hdr).setAt (p + n) (by omega)
    rw [show ((p + n : Nat) : Int) = (p : Int) + n by omega] at hT
    generalize (w.drewN nq).setCell ⟨g, 2, none⟩ (.int .i64 ((p : Int) + n)) = w1 at *
    obtain ⟨hT1, hT2⟩ := hT
    clear hc0 hc1 hc2 hs hf hf0 hf2
    obtain ⟨A, c, hc0, hc1, hc2, hs, h1, h2, h3, hf⟩ := hT1.cells
    rw [show ((p + n : Nat) : Int) = (p : Int) + n by omega] at hc2
    have b0 : 0 ≤ (p : Int) := by omega
    have b1 : (p : Int) ≤ p + n := by omega
    have b2 : (p : Int) + n ≤ c := by omega
    go_quiet (fail)
    go_wp2_with fail
    · have hl2 : (l.drop p).take n = [] := by rw [List.drop_eq_nil_of_le (by omega), List.take_nil]
      have hn0 : n = 0 := by omega
      have hd1 : Below w1.heap.size w1 (w1.drewN nq) := ⟨rfl, rfl, rfl, Nat.le_refl _, fun _ _ => rfl⟩
      rw [hl2]
      refine bodyPost_ret (results_tmp rfl _ _ _) rfl ?_
      refine ⟨A, 0, ?_, Sees.nil _ _, Nat.le_refl _, by unfold maxLen; omega, hT1.below hd1, ((But.of_below (R := Only g) hdr).trans hT2 (fun n h => .inl h)).trans (But.of_below (R := fun _ => False) hd1) (fun n h => h.elim)⟩
      subst hn0; rfl
    · have hlen2 : ((l.drop p).take n).length = n := by simp; omega
      have hd1 : Below w1.heap.size w1 (w1.drewN nq) := ⟨rfl, rfl, rfl, Nat.le_refl _, fun _ _ => rfl⟩
      have hf : NextPost w g l ((0, p + n), (l.drop p).take n) (.returned (.slice (A.map (·.add p)) n (c - p))) (w1.drewN nq) :=
        ⟨_, _, by rw [hlen2], SeesB.cutTo (SeesB.below hs hd1) p n, by rw [hlen2]; omega, by omega, hT1.below hd1, ((But.of_below (R := Only g) hdr).trans hT2 (fun n h => .inl h)).trans (But.of_below (R := fun _ => False) hd1) (fun n h => h.elim)⟩
      go_ret
      exact hf
end Go.Proofs.YtkmhmehofipehaaDoor
/- A taker's number. -/
namespace Go.Proofs.YtkmhmehofipehaaDoor
set_option linter.unusedVariables false
open Go.RowKit
/-- a number of its bytes, the lowest first -/
def valLE (l : List UInt8) : Nat := l.foldr (fun b v => b.toNat + 256 * v) 0
theorem valLE_snoc (l : List UInt8) (b : UInt8) : valLE (l ++ [b]) = valLE l + b.toNat * 256 ^ l.length := by
  induction l with
  | nil => simp [valLE]
  | cons x l ih =>
    have e1 : valLE (x :: l ++ [b]) = x.toNat + 256 * valLE (l ++ [b]) := rfl
    have e2 : valLE (x :: l) = x.toNat + 256 * valLE l := rfl
    rw [e1, ih, e2, List.length_cons, Nat.pow_succ, Nat.mul_add, ← Nat.mul_assoc, Nat.add_assoc]
    congr 2
    rw [Nat.mul_comm 256, Nat.mul_assoc, Nat.mul_comm 256]
theorem valLE_lt (l : List UInt8) : valLE l < 256 ^ l.length := by
  induction l with
  | nil => simp [valLE]
  | cons x l ih =>
    have e2 : valLE (x :: l) = x.toNat + 256 * valLE l := rfl
    have := x.toNat_lt
    rw [e2, List.length_cons, Nat.pow_succ]
    omega
/-- what a taker that is fine gives of a field of n bytes -/
def takeU (s : Int × Nat) (l : List UInt8) (n : Int) : (Int × Nat) × List UInt8 :=
  if s.1 ≠ 0 then (s, []) else if n < 1 ∨ 8 < n then ((1, s.2), []) else tnext s.2 l n.toNat
def UPost (w : World) (g : Nat) (l : List UInt8) (r : (Int × Nat) × List UInt8) (e : Ending) (w' : World) : Prop :=
  e = .returned (.int .u64 (valLE r.2 : Nat)) ∧ Tk w' g r.1.1 r.1.2 l ∧ But (Only g) w w'
theorem or_add (v : Nat) (b : UInt8) (k : Nat) (hk : k < 8) (hv : v < 256 ^ k) : bits .or .u64 (v : Int) (IntKind.u64.wrap ((b.toNat : Int) * 2 ^ (8 * k))) = ((v + b.toNat * 256 ^ k : Nat) : Int) := by
  have hb := b.toNat_lt
  have hp : (2 : Nat) ^ (8 * k) = 256 ^ k := by rw [Nat.pow_mul]
  have h8 : 256 ^ k ≤ 256 ^ 7 := Nat.pow_le_pow_right (by omega) (by omega)
  have hm : b.toNat * 256 ^ k < 18446744073709551616 := by
    have := Nat.mul_le_mul (show b.toNat ≤ 255 by omega) h8
    omega
  have hw : IntKind.u64.wrap ((b.toNat : Int) * 2 ^ (8 * k)) = ((b.toNat * 2 ^ (8 * k) : Nat) : Int) := by
    rw [IntKind.wrap_u64, show (b.toNat : Int) * 2 ^ (8 * k) = ((b.toNat * 2 ^ (8 * k) : Nat) : Int) by push_cast; rfl, hp]
    omega
  have ho : v ||| b.toNat * 2 ^ (8 * k) = v + b.toNat * 256 ^ k := by
    rw [Nat.or_comm, Nat.mul_comm b.toNat, ← Nat.two_pow_add_eq_or_of_lt (by rw [hp]; exact hv), hp, Nat.mul_comm]; omega
  rw [hw, bits_or_u64_nat v _ (by omega) (by rw [hp]; exact hm), ho]
set_option maxHeartbeats 1000000 in
theorem takerU_any (g : Nat) (err : Int) (p : Nat) (n : Int) (l : List UInt8) (w : World) (h : Tk w g err p l) (hlen : l.length ≤ 140737488355328) :
    Calls Tryd.prog 69 #[.pointer (some ⟨g, 0, none⟩), .int .i64 n] w (UPost w g l (takeU (err, p) l n)) := by
  obtain ⟨A, c, hc0, hc1, hc2, hs, h1, h2, h3, hf⟩ := h.cells
  have hf0 := hf 0
  by_cases h0 : err = 0
  · subst h0
    by_cases hn : n < 1 ∨ 8 < n
    · rw [takeU, if_neg (by simp), if_pos hn]
      have hT := h.setErr 1
      go_enter Tryd.func69, Tryd.ntmps69
      go_wp2_with fail
      refine (tready_is g 0 true _ hc0 rfl).mono ?_
      rintro e w' ⟨rfl, rfl⟩
      go_wp2_with fail
      refine (may_no g n _ hc0 hf0 hn).mono ?_
      rintro e w' ⟨rfl, rfl⟩
      go_wp2_with fail
      go_ret
      exact ⟨rfl, hT.1, hT.2⟩
    · rw [takeU, if_neg (by simp), if_neg hn]
      obtain ⟨N, rfl⟩ := Int.eq_ofNat_of_zero_le (show 0 ≤ n by omega)
      have hN : 1 ≤ N ∧ N ≤ 8 := by omega
      rw [show ((N : Int)).toNat = N from rfl]
      have hr8 : (tnext p l N).2.length ≤ 8 := by
        unfold tnext; split
        · simp
        · simp; omega
      have hnx := tnext_any g p N l w h hlen (by omega)
      generalize tnext p l N = r at hr8 hnx
      go_enter Tryd.func69, Tryd.ntmps69
      go_wp2_with fail
      refine (tready_is g 0 true _ hc0 rfl).mono ?_
      rintro e w' ⟨rfl, rfl⟩
      go_wp2_with fail
      refine (may_yes g (N : Int) _ hc0 (by omega)).mono ?_
      rintro e w' ⟨rfl, rfl⟩
      go_wp2_with fail
      refine hnx.mono ?_
      rintro e w1 ⟨A1, c1, rfl, hs1, hc1', hc2', hT, hB⟩
      obtain ⟨m, hm⟩ : ∃ m, m = r.2.length := ⟨_, rfl⟩
      rw [← hm]
      go_wp2_with fail
      go_loop [5, 6, 7, 23] (fun v x y i => ∃ k : Nat, k ≤ r.2.length ∧ i = .int .i64 k ∧ v = .int .u64 (valLE (r.2.take k) : Nat)) (fun _ _ _ i => r.2.length - (intOf i).toNat)
      case atStart => exact ⟨0, by omega, rfl, rfl⟩
      case round =>
        obtain ⟨k, hk, rfl, rfl⟩ := hrel
        by_cases hlt : k < r.2.length
        · have hd : decide ((k : Int) < m) = true := by simp; omega
          obtain ⟨a, rfl, hc⟩ := hs1.at hlt
          have hbl := byte_lt r.2[k]
          go_wp2_with fail
          exact ⟨⟨k + 1, hlt, by go_num, by rw [or_add _ _ k (by omega) (by have := valLE_lt (r.2.take k); rwa [List.length_take, Nat.min_eq_left hk] at this), List.take_succ_eq_append_getElem hlt, valLE_snoc, List.length_take, Nat.min_eq_left hk]⟩, by simp [intOf]; omega⟩
        · obtain rfl : k = m := by omega
          have hd : decide ((k : Int) < k) = false := by simp
          have hfull : r.2.take k = r.2 := by rw [hm]; exact List.take_length
          rw [hfull]
          go_wp2_with fail
          go_ret
          exact ⟨rfl, hT, hB⟩
  · have d0 : (err == 0) = false := by simpa using h0
    rw [takeU, if_pos h0]
    go_enter Tryd.func69, Tryd.ntmps69
    go_wp2_with fail
    refine (tready_is g err false _ hc0 d0).mono ?_
    rintro e w' ⟨rfl, rfl⟩
    go_wp2_with fail
    go_ret
    exact ⟨rfl, h, But.refl _ _⟩
end Go.Proofs.YtkmhmehofipehaaDoor
/- Bytes of a number, and the number of bytes: each from the other. -/
namespace Go.Proofs.YtkmhmehofipehaaDoor
set_option linter.unusedVariables false
open Go.RowKit
theorem bytesLE_cons (v n : Nat) : bytesLE v (n + 1) = UInt8.ofNat (v % 256) :: bytesLE (v / 256) n := by
  unfold bytesLE
  rw [List.range_succ_eq_map, List.map_cons, List.map_map]
  congr 1
  · simp
  · apply List.map_congr_left
    intro i _
    simp only [Function.comp, Nat.pow_succ, Nat.mul_comm (256 ^ i), Nat.div_div_eq_div_mul]
theorem bytesLE_val (l : List UInt8) : bytesLE (valLE l) l.length = l := by
  induction l with
  | nil => rfl
  | cons x l ih =>
    have h := x.toNat_lt
    have e : valLE (x :: l) = x.toNat + 256 * valLE l := rfl
    rw [List.length_cons, bytesLE_cons, e, show (x.toNat + 256 * valLE l) % 256 = x.toNat by omega, show (x.toNat + 256 * valLE l) / 256 = valLE l by omega, ih]
    simp
theorem valLE_of (v n : Nat) (h : v < 256 ^ n) : valLE (bytesLE v n) = v := by
  induction n generalizing v with
  | zero => simp at h; subst h; rfl
  | succ n ih =>
    have h2 : v / 256 < 256 ^ n := by rw [Nat.pow_succ] at h; exact Nat.div_lt_of_lt_mul (by rw [Nat.mul_comm]; exact h)
    have e : valLE (bytesLE v (n + 1)) = (UInt8.ofNat (v % 256)).toNat + 256 * valLE (bytesLE (v / 256) n) := by rw [bytesLE_cons]; rfl
    rw [e, ih _ h2, UInt8.toNat_ofNat_of_lt' (by show v % 256 < 256; omega)]
    omega
/-- a field that stands behind p bytes -/
theorem fld_at (P X R : List UInt8) (p n : Nat) (hp : P.length = p) (hn : X.length = n) : ((P ++ (X ++ R)).drop p).take n = X := by
  subst hp hn; simp
/-- a row of the call's own has room for what it holds -/
theorem own_room {w : World} {base size n c : Nat} {e : TypeId} {A : Option Addr} {xs : List Value} (h : w.ownsRow base e size (.slice A n c) n xs) : n ≤ c ∧ c ≤ maxLen := by
  rcases h.2 with ⟨h1, h0⟩ | ⟨g, cap, cur, h1, _, _, h4, h5, _⟩
  · injection h1 with _ _ h3
    subst h3; subst h0; exact ⟨Nat.le_refl _, Nat.zero_le _⟩
  · injection h1 with _ _ h3
    subst h3; exact ⟨h4, h5⟩
end Go.Proofs.YtkmhmehofipehaaDoor
/- A taker's bytes. -/
namespace Go.Proofs.YtkmhmehofipehaaDoor
set_option linter.unusedVariables false
open Go.RowKit
def takeRaw (s : Int × Nat) (l : List UInt8) (n : Int) : (Int × Nat) × List UInt8 :=
  if s.1 ≠ 0 then (s, []) else if n < 0 then ((1, s.2), []) else tnext s.2 l n.toNat
def RawPost (w : World) (g : Nat) (l : List UInt8) (r : (Int × Nat) × List UInt8) (e : Ending) (w' : World) : Prop :=
  ∃ (A : Option Addr) (c : Nat), e = .returned (.slice A r.2.length c) ∧ SeesB w' A r.2 ∧ (∀ a, A = some a → w.heap.size ≤ a.block ∧ a.block < w'.heap.size) ∧ r.2.length ≤ c ∧ c ≤ maxLen ∧ Tk w' g r.1.1 r.1.2 l ∧ But (Only g) w w'
theorem tnext_len (p : Nat) (l : List UInt8) (n : Nat) : (tnext p l n).2.length ≤ l.length := by
  unfold tnext; split <;> simp <;> omega
set_option maxHeartbeats 1000000 in
theorem traw_any (g : Nat) (err : Int) (p : Nat) (n : Int) (l : List UInt8) (w : World) (h : Tk w g err p l) (hlen : l.length ≤ 140737488355328) (hn : n ≤ 9223372036854775807) :
    Calls Tryd.prog 70 #[.pointer (some ⟨g, 0, none⟩), .int .i64 n] w (RawPost w g l (takeRaw (err, p) l n)) := by
  obtain ⟨A, c, hc0, hc1, hc2, hs, h1, h2, h3, hf⟩ := h.cells
  have hf0 := hf 0
  by_cases he : err ≠ 0
  · have hd : (err == 0) = false := by simpa using he
    have hfin : RawPost w g l (takeRaw (err, p) l n) (.returned (.slice none 0 0)) w := by
      unfold takeRaw; rw [if_pos he]
      exact ⟨none, 0, rfl, Sees.nil _ _, fun a ha => by (cases ha), Nat.le_refl _, Nat.zero_le _, h, But.refl _ _⟩
    go_enter Tryd.func70, Tryd.ntmps70
    go_wp2_with fail
    refine (tready_is g err false _ hc0 hd).mono ?_
    rintro e w' ⟨rfl, rfl⟩
    go_wp2_with fail
    go_ret
    exact hfin
  have he0 : err = 0 := by omega
  subst he0
  by_cases hneg : n < 0
  · have d1 : decide (n < 0) = true := by simpa using hneg
    have hT := h.setErr 1
    have hfin : RawPost w g l (takeRaw (0, p) l n) (.returned (.slice none 0 0)) (w.setCell ⟨g, 0, none⟩ (.int .i64 1)) := by
      unfold takeRaw; rw [if_neg (by simp), if_pos hneg]
      exact ⟨none, 0, rfl, Sees.nil _ _, fun a ha => by (cases ha), Nat.le_refl _, Nat.zero_le _, hT.1, hT.2⟩
    go_enter Tryd.func70, Tryd.ntmps70
    go_wp2_with fail
    refine (tready_is g 0 true _ hc0 rfl).mono ?_
    rintro e w' ⟨rfl, rfl⟩
    go_wp2_with fail
    refine (fail_ok g 1 _ hc0 hf0).mono ?_
    rintro e w' ⟨rfl, rfl⟩
    go_wp2_with fail
    go_ret
    exact hfin
  have d1 : decide (n < 0) = false := by simpa using hneg
  obtain ⟨N, rfl⟩ := Int.eq_ofNat_of_zero_le (show 0 ≤ n by omega)
  have hN := hid (tnext_any g p N l w h hlen (by omega))
  have htl := hid (tnext_len p l N)
  obtain ⟨R, hR⟩ : ∃ R, R = tnext p l N := ⟨_, rfl⟩
  rw [show takeRaw (0, p) l (N : Int) = R by unfold takeRaw; rw [if_neg (by simp), if_neg hneg, hR]; rfl]
  rw [← hR] at hN htl
  clear hR hneg
  go_enter Tryd.func70, Tryd.ntmps70
  go_wp2_with fail
  refine (tready_is g 0 true _ hc0 rfl).mono ?_
  rintro e w' ⟨rfl, rfl⟩
  go_wp2_with fail
  refine hN.out.mono ?_
  rintro e w1 ⟨A1, c1, rfl, hs1, h11, h12, hT1, hB1⟩
  clear hc0 hc1 hc2 hf hf0
  go_wp2_with fail
  refine (clone_any A1 c1 R.2 w1 hs1 (Nat.le_trans htl.out hlen)).mono ?_
  rintro e w2 ⟨v, rfl, hv⟩
  obtain ⟨A2, c2, rfl, hs2, hA2, ho2, hb2⟩ := hv.parts
  have hfin : RawPost w g l R (.returned (.slice A2 R.2.length c2)) w2 :=
    ⟨A2, c2, rfl, hs2, fun a ha => ⟨Nat.le_trans hB1.size (hA2 a ha).1, (hA2 a ha).2⟩, (own_cap ho2).1, (own_cap ho2).2, hT1.below hb2, hB1.trans (But.of_below (R := fun _ => False) hb2) (fun n h => h.elim)⟩
  go_wp2_with fail
  go_ret
  exact hfin
end Go.Proofs.YtkmhmehofipehaaDoor
