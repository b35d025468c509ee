/- A file's blocks in memory, while they are read. -/
import Derived.Test.YtkmhmehofipehaaGreatDoorPz14
namespace Go.Proofs.YtkmhmehofipehaaGreatDoor
set_option linter.unusedVariables false
open Go.RowKit
/-- one block of a file as it lies in memory -/
structure BlkM where
  h : HeadV
  A : Option Addr
  c : Nat
  p : List UInt8
  sum : Int
  at_ : Nat
def BlkM.cells (x : BlkM) : List Value := [.int .i64 x.h.k, .int .i64 x.h.idx, .int .i64 x.h.len, .int .i64 x.h.stp, .int .i64 x.h.bnd, .bool x.h.lst, .int .u32 x.h.lnk, .int .i64 x.h.siz, .slice x.A x.p.length x.c, .int .u32 x.sum, .int .i64 (x.at_ : Int)]
def BlkM.plain (x : BlkM) : BlkP := ⟨x.h, x.p, x.sum, x.at_⟩
def flatM : List BlkM → List Value
  | [] => []
  | x :: l => x.cells ++ flatM l
theorem flatM_len : ∀ l : List BlkM, (flatM l).length = l.length * 11
  | [] => rfl
  | x :: l => by simp only [flatM, List.length_append, List.length_cons, flatM_len l, BlkM.cells, List.length_nil]; omega
theorem flatM_app : ∀ l m : List BlkM, flatM (l ++ m) = flatM l ++ flatM m
  | [], _ => rfl
  | x :: l, m => by simp only [flatM, List.cons_append, flatM_app l m, List.append_assoc]
theorem flatM_one : ∀ (l : List BlkM), ∀ u ∈ flatM l, u.oneCell' = true
  | [], u, h => by simp [flatM] at h
  | x :: l, u, h => by
    simp only [flatM, List.mem_append] at h
    rcases h with h | h
    · simp only [BlkM.cells, List.mem_cons, List.not_mem_nil, or_false] at h
      rcases h with rfl | rfl | rfl | rfl | rfl | rfl | rfl | rfl | rfl | rfl | rfl <;> rfl
    · exact flatM_one l u h
theorem flatM_at : ∀ (l : List BlkM) (i : Nat) (h : i < l.length) (j : Nat) (hj : j < 11), (flatM l)[i * 11 + j]? = l[i].cells[j]?
  | [], i, h, _, _ => by simp at h
  | x :: l, 0, _, j, hj => by
    simp only [flatM, Nat.zero_mul, Nat.zero_add, List.getElem_cons_zero]
    rw [List.getElem?_append_left (by simpa [BlkM.cells] using hj)]
  | x :: l, i + 1, h, j, hj => by
    simp only [flatM, List.getElem_cons_succ]
    rw [List.getElem?_append_right (by simp [BlkM.cells]; omega), show (i + 1) * 11 + j - x.cells.length = i * 11 + j by simp [BlkM.cells]; omega]
    exact flatM_at l i (by simpa using h) j hj
theorem elK : Elem Tryz.prog 29 78 11 96 := Elem.mk' Tryz.underlying29 (z := .agg #[.int .i64 0, .int .i64 0, .int .i64 0, .int .i64 0, .int .i64 0, .bool false, .int .u32 0, .int .i64 0, .slice none 0 0, .int .u32 0, .int .i64 0]) (by kernel_rfl) rfl (by omega)
/-- the blocks' bytes: seen, and apart from what grows -/
def Pays (w : World) (m : Nat) (vp vk : Value) (L : List BlkM) : Prop :=
  ∀ x ∈ L, SeesB w x.A x.p ∧ x.p.length ≤ x.c ∧ x.c ≤ maxLen ∧ (x.p ≠ [] → ∀ a, x.A = some a → a.block ≠ m ∧ vp.ownBlock ≠ some a.block ∧ vk.ownBlock ≠ some a.block)
def Moved (w : World) (v v' : Value) : Prop := v'.ownBlock = v.ownBlock ∨ ∃ k, v'.ownBlock = some k ∧ w.heap.size ≤ k
theorem Moved.refl (w : World) (v : Value) : Moved w v v := .inl rfl
theorem SeesB.none_of {w w' : World} {A : Option Addr} {l : List UInt8} (h : l = []) : SeesB w' A l := by subst h; exact Sees.nil _ _
theorem SeesB.lt {w : World} {A : Option Addr} {l : List UInt8} (h : SeesB w A l) (hl : l ≠ []) {a : Addr} (ha : A = some a) : a.block < w.heap.size :=
  Sees.lt h (by intro h2; exact hl (by simpa using h2)) ha
theorem SeesB.but {w w' : World} {A : Option Addr} {l : List UInt8} {R : Nat → Prop} (h : SeesB w A l) (hb : But R w w') (hR : l ≠ [] → ∀ a, A = some a → ¬ R a.block) : SeesB w' A l := by
  by_cases hl : l = []
  · exact SeesB.none_of (w := w) hl
  · intro i v hv
    obtain ⟨a, ha, hc⟩ := h i v hv
    refine ⟨a, ha, (World.cell?_of_block (w := w) (hb.block _ ?_ ?_)).trans hc⟩
    · rw [addr_block]; exact h.lt hl ha
    · rw [addr_block]; exact hR hl a ha
theorem Pays.but {w w' : World} {m : Nat} {vp vk vp' vk' : Value} {L : List BlkM} {R : Nat → Prop} (h : Pays w m vp vk L) (hb : But R w w') (hR : ∀ n, R n → n = m ∨ vp.ownBlock = some n ∨ vk.ownBlock = some n ∨ w.heap.size ≤ n)
    (hp : Moved w vp vp') (hk : Moved w vk vk') : Pays w' m vp' vk' L := by
  intro x hx
  obtain ⟨h1, h2, h3, h4⟩ := h x hx
  refine ⟨h1.but hb (fun hl a ha hr => ?_), h2, h3, fun hl a ha => ?_⟩
  · obtain ⟨q1, q2, q3⟩ := h4 hl a ha
    have q4 := h1.lt hl ha
    rcases hR _ hr with h5 | h5 | h5 | h5
    · exact q1 h5
    · exact q2 h5
    · exact q3 h5
    · omega
  · obtain ⟨q1, q2, q3⟩ := h4 hl a ha
    have q4 := h1.lt hl ha
    refine ⟨q1, ?_, ?_⟩
    · rcases hp with h5 | ⟨k, h5, h6⟩
      · rw [h5]; exact q2
      · rw [h5]; intro h7; injection h7 with h7; omega
    · rcases hk with h5 | ⟨k, h5, h6⟩
      · rw [h5]; exact q3
      · rw [h5]; intro h7; injection h7 with h7; omega
theorem Pays.below {w w' : World} {m : Nat} {vp vk : Value} {L : List BlkM} (h : Pays w m vp vk L) (hb : Below w.heap.size w w') : Pays w' m vp vk L :=
  h.but (But.of_below (R := fun _ => False) hb) (fun _ h => h.elim) (Moved.refl _ _) (Moved.refl _ _)
/-- measures of what was read -/
structure PS.ok (s : PS) (b : List UInt8) : Prop where
  num : s.pl.length = s.bl.length
  at36 : 36 * s.pl.length ≤ s.at_
  at_ : s.at_ ≤ b.length
  cnt : 0 ≤ s.cnt ∧ s.cnt ≤ 65536 * s.pl.length
theorem begP_ok {b : List UInt8} {n : Nat} (h : 19 + n ≤ b.length) : (begP n).ok b := ⟨rfl, by simp [begP], h, by simp [begP], by simp [begP]⟩
theorem blkE_ok {i : InfoV} {b : List UInt8} {s : PS} (h : blkE i b s = 0) : s.at_ < b.length ∧ (openH (b.drop s.at_)).1 = 0 ∧ nextE i (openH (b.drop s.at_)).2.1 s.pl.length s.short = 0 := by
  unfold blkE at h
  by_cases h1 : b.length ≤ s.at_
  · rw [if_pos h1] at h; exact absurd h (by decide)
  · rw [if_neg h1] at h
    by_cases h2 : (openH (b.drop s.at_)).1 ≠ 0
    · rw [if_pos h2] at h; exact absurd h h2
    · rw [if_neg h2] at h
      exact ⟨by omega, by simpa using h2, h⟩
theorem PS.ok.next {i : InfoV} {b : List UInt8} {s : PS} (h : s.ok b) (he : blkE i b s = 0) : (s.next i (openH (b.drop s.at_))).ok b := by
  obtain ⟨h1, h2, h3⟩ := blkE_ok he
  obtain ⟨q1, q2, q3⟩ := openH_fine h2
  have q4 := openH_len h2
  have h5 := h.at36
  have h6 := h.cnt
  rw [List.length_drop] at q1
  unfold PS.next
  refine ⟨by simp [h.num], by simp only [List.length_append, List.length_singleton]; omega, by simp only; omega, ⟨by simp only; omega, by simp only [List.length_append, List.length_singleton]; omega⟩⟩
/-- the reader while it reads blocks -/
def Rdr (w0 w1 w : World) (m g : Nat) (i : InfoV) (Ab : Option Addr) (cb : Nat) (b : List UInt8) (At : Option Addr) (nt ct : Nat) (s : PS) (L : List BlkM) : Prop :=
  ∃ (Ap : Option Addr) (cp : Nat) (Ak : Option Addr) (ck : Nat), w.heap[m]? = some (.cells (RdCells g i Ap s.pl.length cp s.cnt s.short Ab b.length cb s.at_ i At nt ct Ak L.length ck 0 0 none 0 0) 56 (0, 0)) ∧
    w.ownsRow w1.heap.size 3 1 (.slice Ap s.pl.length cp) s.pl.length (s.pl.map intV) ∧ w.ownsRow w1.heap.size 78 11 (.slice Ak L.length ck) L.length (flatM L) ∧
    Pays w m (.slice Ap s.pl.length cp) (.slice Ak L.length ck) L ∧ s.bl = L.map BlkM.plain ∧ Below w0.heap.size w0 w ∧ But (fun n => n = m ∨ w1.heap.size ≤ n) w1 w
end Go.Proofs.YtkmhmehofipehaaGreatDoor
