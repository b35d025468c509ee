/- Small general lemmas, used in all texts. -/
import Derived.WalkKit
import Derived.StillTailTactics
import Derived.Tactics
import Derived.Laws.Tables
import Derived.Laws.Rows
import Derived.Laws.CopyOwn
import Derived.OwnWalk
import Derived.Test.YtkmhmehofipehaaDoorProg
import Derived.Maps.AppendAt
import Derived.Deep.AppendLies
import Derived.RegionTactic
namespace Go.Proofs.YtkmhmehofipehaaDoor
set_option linter.unusedVariables false
open Go.RowKit
theorem hid {p : Prop} (h : p) : Hid p := h

theorem same {P : Program} {f : FuncId} {args : Array Value} {w : World} {v : Value} (h : Calls P f args w fun e w' => e = .returned v ∧ w = w') :
    Calls P f args w fun e w' => e = .returned v ∧ w' = w := h.mono fun _ _ ⟨a, b⟩ => ⟨a, b.symm⟩
theorem ret_bool {a b : Bool} (h : a = b) : Ending.returned (.bool a) = .returned (.bool b) := by rw [h]
theorem ret_int {k : IntKind} {a b : Int} (h : a = b) : Ending.returned (.int k a) = .returned (.int k b) := by rw [h]
theorem results_tmp4 {P : Program} {fn : Func} {t u v x : Tmp} (h : fn.results = #[.tmp t, .tmp u, .tmp v, .tmp x]) (tmps : Array Value) (w : World) :
    (results fn tmps).run P w = .ok (.tuple #[tmps.getD t undef, tmps.getD u undef, tmps.getD v undef, tmps.getD x undef]) w := by simp [results, h]
theorem addr_block (a : Addr) (n : Nat) : (a.add n).block = a.block := by unfold Addr.add; split <;> rfl
theorem addr_add (a : Addr) (i j : Nat) : (a.add i).add j = a.add (i + j) := by
  unfold Addr.add
  by_cases hi : i = 0 <;> by_cases hj : j = 0 <;> simp [hi, hj, Nat.add_assoc]

/-- a slice that begins at A reads as the values xs -/
def Sees (w : World) (A : Option Addr) (xs : List Value) : Prop :=
  ∀ (i : Nat) (v : Value), xs[i]? = some v → ∃ a, A = some a ∧ w.cell? (a.add i) = some v
/-- worlds that agree on all blocks that were there -/
def Keeps (w w' : World) : Prop := ∀ b, b < w.heap.size → w'.heap[b]? = w.heap[b]?
theorem Keeps.refl (w : World) : Keeps w w := fun _ _ => rfl
theorem Keeps.of_below {w w' : World} (h : Below w.heap.size w w') : Keeps w w' := h.block
theorem Sees.keep {w w' : World} {A : Option Addr} {xs : List Value} (h : Sees w A xs) (hk : Keeps w w') : Sees w' A xs := by
  intro i v hv
  obtain ⟨a, ha, hc⟩ := h i v hv
  have hlt := block_lt_of_cell hc
  exact ⟨a, ha, (World.cell?_of_block (w := w) (hk _ hlt)).trans hc⟩
theorem Sees.below {w w' : World} {A : Option Addr} {xs : List Value} (h : Sees w A xs) (hk : Below w.heap.size w w') : Sees w' A xs := h.keep hk.block
theorem Sees.nil (w : World) (A : Option Addr) : Sees w A [] := fun i v h => by simp at h
theorem Sees.cut {w : World} {A : Option Addr} {xs : List Value} (h : Sees w A xs) (k n cap : Nat) (hk : k + n ≤ cap) :
    Sees w (if cap = k then A else A.map (·.add k)) ((xs.drop k).take n) := by
  intro i v hv
  have hin : i < n := by
    rcases Nat.lt_or_ge i n with h1 | h1
    · exact h1
    · rw [List.getElem?_eq_none (by simp; omega)] at hv; cases hv
  rw [List.getElem?_take_of_lt hin, List.getElem?_drop] at hv
  obtain ⟨a, ha, hc⟩ := h _ v hv
  rw [if_neg (by omega)]
  exact ⟨a.add k, by rw [ha]; rfl, by rw [addr_add]; exact hc⟩
theorem Sees.take {w : World} {A : Option Addr} {xs : List Value} (h : Sees w A xs) (n : Nat) : Sees w A (xs.take n) := by
  intro i v hv
  have hin : i < n := by
    rcases Nat.lt_or_ge i n with h1 | h1
    · exact h1
    · rw [List.getElem?_eq_none (by simp; omega)] at hv; cases hv
  rw [List.getElem?_take_of_lt hin] at hv
  exact h _ v hv

/-- a byte as a value -/
def byteV (b : UInt8) : Value := .int .u8 (b.toNat : Int)
/-- a slice that begins at A reads as these bytes -/
def SeesB (w : World) (A : Option Addr) (l : List UInt8) : Prop := Sees w A (l.map byteV)
theorem SeesB.at {w : World} {A : Option Addr} {l : List UInt8} (h : SeesB w A l) {i : Nat} (hi : i < l.length) :
    ∃ a, A = some a ∧ w.cell? (a.add i) = some (.int .u8 (l[i].toNat : Int)) := h i _ (by simp [hi, byteV])
theorem SeesB.below {w w' : World} {A : Option Addr} {l : List UInt8} (h : SeesB w A l) (hk : Below w.heap.size w w') : SeesB w' A l := Sees.below h hk
theorem Sees.of_block {w : World} {g : Nat} {cs : Array Value} {t : TypeId} {fr : Nat × Nat} (h : w.heap[g]? = some (.cells cs t fr)) {xs : List Value} (hx : cs.toList = xs) : Sees w (some ⟨g, 0, none⟩) xs := by
  intro i v hv
  refine ⟨_, rfl, ?_⟩
  have e : (Addr.add ⟨g, 0, none⟩ i) = ⟨g, i, none⟩ := by unfold Addr.add; split <;> simp_all
  rw [e, cell_of_row w g i cs t fr h, ← Array.getElem?_toList, hx]; exact hv
theorem Sees.of_alloc (w : World) (cs : Array Value) (t : TypeId) {xs : List Value} (hx : cs.toList = xs) : Sees (w.alloc (.cells cs t)) (some ⟨w.heap.size, 0, none⟩) xs :=
  Sees.of_block (heap_alloc_new w _) hx
theorem byte_lt (b : UInt8) : (b.toNat : Int) < 256 := by have := b.toNat_lt; omega
section
variable {P : Program}
/-- a whole struct or array laid into a block of its size -/
theorem wp_store_row {o : Oper} {a : Act} {w : World} {K : Act → World → Prop} {Q : Exit → Act → World → Prop} (ty : TypeId) (x y : Operand) (ho : o.op = .store ty x y) (hd : o.dst = none)
    (g : Nat) (hx : a.eval x = .pointer (some ⟨g, 0, none⟩)) (cs : Array Value) (hy : a.eval y = .agg cs) (t : TypeId) (cur : Array Value) (hg : w.heap[g]? = some (.cells cur t (0, 0)))
    (hi : (P.info? ty).map (·.size) = some cs.size) (hs : cur.size = cs.size) (h1 : cs.all (·.oneCell') = true)
    (h : K a (w.setRow g cs)) : o.wp P a w K Q := by
  have hr := run_storeVar_row (P := P) w g t ty cur cs hg hi hs h1
  unfold Oper.wp execOp
  simp only [ho, hx, hy, Instr.storeAt, Instr.sureAddr, Sem.run_bind, Sem.run_pure, Result.andThen_ok, hr]
  have e : ∀ v, a.put o.dst v = a := by intro v; rw [hd]; rfl
  simp only [Oper.upon, e]
  exact h
theorem wpList_store_row {ops : Array Oper} {rest : List Oper} {o : Oper} {a : Act} {w : World} {Q : Exit → Act → World → Prop} (hgd : o.guard = none) (ty : TypeId) (x y : Operand) (ho : o.op = .store ty x y) (hd : o.dst = none)
    (g : Nat) (hx : a.eval x = .pointer (some ⟨g, 0, none⟩)) (cs : Array Value) (hy : a.eval y = .agg cs) (t : TypeId) (cur : Array Value) (hg : w.heap[g]? = some (.cells cur t (0, 0)))
    (hi : (P.info? ty).map (·.size) = some cs.size) (hs : cur.size = cs.size) (h1 : cs.all (·.oneCell') = true)
    (h : wpList P ops Q rest a (w.setRow g cs)) : wpList P ops Q (o :: rest) a w :=
  wpList_plain hgd fun _ hK => wp_store_row ty x y ho hd g hx cs hy t cur hg hi hs h1 (hK _ _ h)
end
end Go.Proofs.YtkmhmehofipehaaDoor
/- Powers of 2: the reference's. -/
namespace Go.Proofs.YtkmhmehofipehaaDoor
set_option linter.unusedVariables false
open Go.RowKit
set_option maxHeartbeats 1000000 in
theorem pow2_any (n : Nat) (w : World) (h : n ≤ 23) :
    Calls Tryd.prog 84 #[.int .i64 (n : Int)] w fun e w' => e = .returned (.int .i64 ((2 ^ n : Nat) : Int)) ∧ w = w' := by
  obtain ⟨R, hR⟩ : ∃ R, R = 2 ^ n := ⟨_, rfl⟩
  rw [← hR]
  have HR := hid hR
  clear hR
  go_enter Tryd.func84, Tryd.ntmps84
  go_wp2_with fail
  go_loop [3, 4] (fun p i => ∃ k P : Nat, k ≤ n ∧ i = .int .i64 (k : Int) ∧ p = .int .i64 (P : Int) ∧ P ≤ 8388608 ∧ Hid (P = 2 ^ k)) (fun _ i => n - (intOf i).toNat)
  case atStart => exact ⟨0, 1, by omega, rfl, rfl, by omega, hid rfl⟩
  case round =>
    obtain ⟨k, P, hk, rfl, rfl, hP, hE⟩ := hrel
    by_cases hlt : k < n
    · have dk : decide ((k : Int) < (n : Int)) = true := decide_eq_true (by omega)
      have d62 : decide ((k : Int) < 62) = true := decide_eq_true (by omega)
      have hb : 2 ^ (k + 1) ≤ 2 ^ 23 := Nat.pow_le_pow_right (by omega) (by omega)
      have HS := hid (show 2 * P = 2 ^ (k + 1) by rw [hE.out, Nat.pow_succ, Nat.mul_comm])
      have hB : 2 * P ≤ 8388608 := by rw [HS.out]; omega
      clear hb
      go_wp2_with fail
      go_round
      case rel => exact ⟨k + 1, 2 * P, by omega, by go_num, by go_num, hB, hid HS.out⟩
      case measure => simp [intOf]; omega
    · obtain rfl : k = n := by omega
      have dk : decide ((k : Int) < (k : Int)) = false := decide_eq_false (by omega)
      obtain rfl : P = R := by rw [hE.out, HR.out]
      go_wp2_with fail
      go_ret
      exact ⟨rfl, rfl⟩
end Go.Proofs.YtkmhmehofipehaaDoor
/- Which steps may be: the program's and the reference's. -/
namespace Go.Proofs.YtkmhmehofipehaaDoor
set_option linter.unusedVariables false
open Go.RowKit
def stepR (q n : Int) : Bool := decide (1 ≤ n ∧ n ≤ 32 ∧ 1 ≤ q ∧ q ≤ 2 ^ (n - 1).toNat)
set_option maxHeartbeats 1000000 in
theorem stepq_any (q n : Int) (w : World) : Calls Tryd.prog 103 #[.int .i64 q, .int .i64 n] w fun e w' => e = .returned (.bool (stepR q n)) ∧ w = w' := by
  obtain ⟨R, hR⟩ : ∃ R, R = stepR q n := ⟨_, rfl⟩
  rw [← hR]
  by_cases h1 : 1 ≤ n
  case neg =>
    have d1 : decide (1 ≤ n) = false := decide_eq_false h1
    obtain rfl : R = false := by rw [hR]; unfold stepR; exact decide_eq_false (by omega)
    clear hR
    go_enter Tryd.func103, Tryd.ntmps103
    go_wp2_with fail
    go_ret
    exact ⟨rfl, rfl⟩
  have d1 : decide (1 ≤ n) = true := decide_eq_true h1
  by_cases h2 : n ≤ 32
  case neg =>
    have d2 : decide (n ≤ 32) = false := decide_eq_false h2
    obtain rfl : R = false := by rw [hR]; unfold stepR; exact decide_eq_false (by omega)
    clear hR
    go_enter Tryd.func103, Tryd.ntmps103
    go_wp2_with fail
    go_ret
    exact ⟨rfl, rfl⟩
  have d2 : decide (n ≤ 32) = true := decide_eq_true h2
  by_cases h3 : 1 ≤ q
  case neg =>
    have d3 : decide (1 ≤ q) = false := decide_eq_false h3
    obtain rfl : R = false := by rw [hR]; unfold stepR; exact decide_eq_false (by omega)
    clear hR
    go_enter Tryd.func103, Tryd.ntmps103
    go_wp2_with fail
    go_ret
    exact ⟨rfl, rfl⟩
  have d3 : decide (1 ≤ q) = true := decide_eq_true h3
  obtain ⟨N, rfl⟩ : ∃ N : Nat, n = (N : Int) + 1 := ⟨(n - 1).toNat, by omega⟩
  have hN : N < 32 := by omega
  have hRR : R = decide (q ≤ 2 ^ N) := by
    rw [hR]
    unfold stepR
    rw [show ((N : Int) + 1 - 1).toNat = N by omega]
    by_cases h4 : q ≤ 2 ^ N
    · rw [decide_eq_true h4]; exact decide_eq_true ⟨h1, h2, h3, h4⟩
    · rw [decide_eq_false h4]; exact decide_eq_false (by omega)
  clear hR
  go_enter Tryd.func103, Tryd.ntmps103
  go_wp2_with fail
  have hw : wrap64 ((2 : Int) ^ N) = 2 ^ N := by
    have h5 : (2 : Nat) ^ N ≤ 2 ^ 31 := Nat.pow_le_pow_right (by omega) (by omega)
    have h6 : (2 : Int) ^ N = ((2 ^ N : Nat) : Int) := by simp
    rw [h6]
    generalize (2 : Nat) ^ N = P at *
    unfold wrap64
    omega
  go_ret
  exact ⟨ret_bool (by rw [hRR, hw]), rfl⟩
set_option maxHeartbeats 1000000 in
theorem rstepq_any (q n : Int) (w : World) (hn : 8 ≤ n ∧ n ≤ 24) : Calls Tryd.prog 56 #[.int .i64 q, .int .i64 n] w fun e w' => e = .returned (.bool (stepR q n)) ∧ w = w' := by
  obtain ⟨R, hR⟩ : ∃ R, R = stepR q n := ⟨_, rfl⟩
  rw [← hR]
  have d1 : decide (1 ≤ n) = true := decide_eq_true (by omega)
  have d2 : decide (n ≤ 32) = true := decide_eq_true (by omega)
  by_cases h3 : 1 ≤ q
  case neg =>
    have d3 : decide (1 ≤ q) = false := decide_eq_false h3
    obtain rfl : R = false := by rw [hR]; unfold stepR; exact decide_eq_false (by omega)
    clear hR
    go_enter Tryd.func56, Tryd.ntmps56
    go_wp2_with fail
    go_ret
    exact ⟨rfl, rfl⟩
  have d3 : decide (1 ≤ q) = true := decide_eq_true h3
  obtain ⟨N, rfl⟩ : ∃ N : Nat, n = (N : Int) + 1 := ⟨(n - 1).toNat, by omega⟩
  have hRR : R = decide (q ≤ ((2 ^ N : Nat) : Int)) := by
    rw [hR, show ((2 ^ N : Nat) : Int) = (2 : Int) ^ N by simp]
    unfold stepR
    rw [show ((N : Int) + 1 - 1).toNat = N by omega]
    by_cases h4 : q ≤ 2 ^ N
    · rw [decide_eq_true h4]; exact decide_eq_true ⟨by omega, by omega, h3, h4⟩
    · rw [decide_eq_false h4]; exact decide_eq_false (by omega)
  clear hR
  have hp := hid (pow2_any N w (by omega))
  generalize 2 ^ N = P at *
  go_enter Tryd.func56, Tryd.ntmps56
  go_wp2_with fail
  refine hp.out.mono ?_
  rintro e w1 ⟨rfl, rfl⟩
  go_wp2_with fail
  go_ret
  exact ⟨ret_bool (by rw [hRR]), rfl⟩
end Go.Proofs.YtkmhmehofipehaaDoor
/- append onto a row of the call's own, the source whatever reads as a list. -/
namespace Go.Proofs.YtkmhmehofipehaaDoor
set_option linter.unusedVariables false
open Go.RowKit
/-- type t is a slice of e; an element takes so many cells and bytes -/
structure Elem (P : Program) (t e : TypeId) (size bytes : Nat) : Prop where
  ty : P.underlying t = some (.slice e)
  inf : ∃ i z, P.info? e = some i ∧ i.zero = some z ∧ i.size = size ∧ i.bytes = bytes ∧ z.cells.size = size
  pos : 0 < size
theorem Elem.mk' {P : Program} {t e : TypeId} {z : Value} {size bytes : Nat} (ty : P.underlying t = some (.slice e)) (h : (P.info? e).map (fun i => (i.zero, i.size, i.bytes)) = some (some z, size, bytes)) (hz : z.cells.size = size) (hp : 0 < size) : Elem P t e size bytes := by
  obtain ⟨i, h0, h1, h2, h3⟩ := info_parts h
  exact ⟨ty, ⟨i, z, h0, h1, h2, h3, hz⟩, hp⟩
section
variable {P : Program} {w w' : World} {base size bytes n : Nat} {t e : TypeId} {v : Value} {xs : List Value}
theorem own_nil (w : World) (base size : Nat) (e : TypeId) : w.ownsRow base e size (.slice none 0 0) 0 [] := ⟨by simp, .inl ⟨rfl, rfl⟩⟩
theorem own_base (h : w.ownsRow base e size v n xs) {k : Nat} (hk : v.ownBlock = some k) : base ≤ k := by
  rcases h.2 with ⟨rfl, _⟩ | ⟨g, cap, cur, rfl, hb, _⟩
  · simp [Value.ownBlock] at hk
  · simp [Value.ownBlock] at hk; omega
theorem own_form (h : w.ownsRow base e size v n xs) : ∃ A c, v = .slice A n c ∧ Sees w A xs ∧ (∀ a, A = some a → v.ownBlock = some a.block ∧ base ≤ a.block ∧ a.block < w.heap.size) := by
  obtain ⟨hl, h⟩ := h
  rcases h with ⟨rfl, rfl⟩ | ⟨g, cap, cur, rfl, hb, hg, hn, _, hs, hx⟩
  · have : xs = [] := List.eq_nil_of_length_eq_zero (by simpa using hl)
    subst this
    exact ⟨none, 0, rfl, Sees.nil _ _, fun a ha => by cases ha⟩
  · refine ⟨_, cap, rfl, ?_, fun a ha => ?_⟩
    · subst hx; exact (Sees.of_block hg rfl).take _
    · injection ha with ha; subst ha
      exact ⟨rfl, hb, (Array.getElem?_eq_some_iff.1 hg).1⟩
theorem own_other (h : w.ownsRow base e size v n xs) {g : Nat} {t : TypeId} {cs : Array Value} {fr : Nat × Nat} (hg : w.heap[g]? = some (.cells cs t fr)) (hne : e ≠ t) : v.ownBlock ≠ some g := by
  rcases h.2 with ⟨rfl, _⟩ | ⟨g', cap, cur, rfl, _, hh, _⟩
  · simp [Value.ownBlock]
  · intro he
    have : g' = g := by simpa [Value.ownBlock] using he
    subst this
    rw [hg] at hh
    injection hh with hh
    injection hh with _ ht
    exact hne ht.symm
theorem Sees.grown {A : Option Addr} {ys : List Value} {row : Option Nat} (h : Sees w A ys) (hg : w.grownBy w' row) (hne : ∀ a, A = some a → some a.block ≠ row) : Sees w' A ys := by
  intro i u hu
  obtain ⟨a, ha, hc⟩ := h i u hu
  exact ⟨a, ha, hg.cell hc (by rw [addr_block]; exact hne a ha)⟩
theorem Sees.lt {A : Option Addr} {ys : List Value} (h : Sees w A ys) (hy : ys ≠ []) {a : Addr} (ha : A = some a) : a.block < w.heap.size := by
  cases ys with
  | nil => exact absurd rfl hy
  | cons y ys =>
    obtain ⟨a', ha', hc⟩ := h 0 y (by simp)
    rw [ha] at ha'; injection ha' with ha'; subst ha'
    have := block_lt_of_cell hc
    rwa [addr_block] at this
/-- a slice of the call's own stays while another row grows -/
theorem below_grown {B : Nat} {w0 : World} (h : Below B w0 w) (hg : w.grownBy w' v.ownBlock) (hB : B ≤ w.heap.size) (hown : w.ownsRow B e size v n xs) : Below B w0 w' :=
  h.grown hg hB fun k hk => own_base hown hk
theorem run_app (w : World) (E : Elem P t e size bytes) (ty : TypeId) (hown : w.ownsRow base e size v n xs) (A : Option Addr) (m c : Nat) (news : List Value) (hr : Sees w A news) (hl : news.length = m * size)
    (h1 : ∀ u ∈ news, u.oneCell' = true) (h63 : n + m ≤ maxLen) (hbytes : (n + m) * bytes ≤ 140737488355328) (hbase : base ≤ w.heap.size) :
    ∃ v' w', (Builtin.append_ #[t, t] ty #[v, .slice A m c]).run P w = .ok v' w' ∧ w'.ownsRow base e size v' (n + m) (xs ++ news) ∧ w.grownBy w' v.ownBlock ∧
      (v'.ownBlock = v.ownBlock ∨ v'.ownBlock = some w.heap.size) := by
  obtain ⟨i, z, hi, hz, hs, hb, hzs⟩ := E.inf
  have hpos := E.pos
  rcases A with _ | ad
  · have hn : news = [] := by
      cases news with
      | nil => rfl
      | cons y ys => obtain ⟨a, ha, _⟩ := hr 0 y (by simp); cases ha
    subst hn
    have hm : m = 0 := by
      rcases Nat.eq_zero_or_pos m with h0 | h0
      · exact h0
      · have := Nat.mul_pos h0 hpos; simp at hl; omega
    subst hm
    refine ⟨v, w, ?_, by simpa using hown, World.grownBy.refl w _, .inl rfl⟩
    rcases hown.2 with ⟨rfl, rfl⟩ | ⟨g, cap, cur, rfl, _, _, hnc, _⟩
    · simp [Builtin.append_, run_underlying E.ty, sizeOf, typeInfo, hi, Builtin.lenOf, Builtin.firstCells]
    · simp [Builtin.append_, run_underlying E.ty, sizeOf, typeInfo, hi, Builtin.lenOf, Builtin.firstCells, hnc, storeCells]
  · have hcells : ∀ j u, news[j]? = some u → w.cell? (ad.add j) = some u := by
      intro j u hu
      obtain ⟨a, ha, hc⟩ := hr j u hu
      injection ha with ha; subst ha; exact hc
    obtain ⟨v', w', hrun, h2, h3, _, h5⟩ := run_append_own_at (P := P) w base t ty e i z size bytes E.ty hi hz hs hb hzs hpos v n xs hown ad m c news hl hcells h1 h63 hbytes hbase
    exact ⟨v', w', hrun, h2, h3, h5⟩
theorem own_sees {A : Option Addr} {c : Nat} (h : w.ownsRow base e size (.slice A n c) n xs) : Sees w A xs := by
  obtain ⟨A', c', hv, hs, _⟩ := own_form h
  injection hv with h1 _ _
  rw [h1]; exact hs
theorem own_addr {A : Option Addr} {c : Nat} (h : w.ownsRow base e size (.slice A n c) n xs) {a : Addr} (ha : A = some a) : base ≤ a.block ∧ a.block < w.heap.size := by
  obtain ⟨A', c', hv, _, hb⟩ := own_form h
  injection hv with h1 _ _
  exact (hb a (by rw [← h1]; exact ha)).2
theorem own_some {A : Option Addr} {c : Nat} (h : w.ownsRow base e size (.slice A n c) n xs) (hn : 0 < n) : ∃ g, A = some ⟨g, 0, none⟩ ∧ base ≤ g ∧ g < w.heap.size := by
  rcases h.2 with ⟨h', h0⟩ | ⟨g, cap, cur, h', hb, hg, _⟩
  · omega
  · injection h' with h1 _ _
    exact ⟨g, h1, hb, (Array.getElem?_eq_some_iff.1 hg).1⟩
/-- what an append leaves: the new value is a slice of the call's own, nothing else has turned -/
def AppK (w : World) (base : Nat) (e : TypeId) (size : Nat) (v : Value) (N : Nat) (ys : List Value) (K : Value → World → Prop) : Prop :=
  ∀ (A' : Option Addr) (c' : Nat) (w' : World), w'.ownsRow base e size (.slice A' N c') N ys → w.grownBy w' v.ownBlock → ((Value.slice A' N c').ownBlock = v.ownBlock ∨ (Value.slice A' N c').ownBlock = some w.heap.size) → Below base w w' → K (.slice A' N c') w'
theorem wp_app {o : Oper} {a : Act} {K : Act → World → Prop} {Q : Exit → Act → World → Prop} (s x : Operand) (t : TypeId)
    (ho : o.op = .call { callee := .builtin .append, args := #[s, x], argTypes := #[t, t] }) (E : Elem P t e size bytes)
    (hs : a.eval s = v) (hown : w.ownsRow base e size v n xs) (A : Option Addr) (m c : Nat) (hx : a.eval x = .slice A m c) (news : List Value) (hr : Sees w A news) (hl : news.length = m * size)
    (h1 : ∀ u ∈ news, u.oneCell' = true) (N : Nat) (hN : n + m = N) (ys : List Value) (hys : xs ++ news = ys) (h63 : N ≤ maxLen) (hbytes : N * bytes ≤ 140737488355328) (hbase : base ≤ w.heap.size)
    (h : AppK w base e size v N ys fun v' w' => K (a.put o.dst v') w') : o.wp P a w K Q := by
  subst hN hys
  obtain ⟨v', w', hrun, h2, h3, h4⟩ := run_app w E o.type hown A m c news hr hl h1 h63 hbytes hbase
  unfold Oper.wp execOp
  simp only [ho, resolve, invoke, builtin, Sem.run_bind, Sem.run_pure, Result.andThen_ok, List.map_toArray, List.map_cons, List.map_nil, hs, hx, hrun]
  obtain ⟨A', c', rfl, _⟩ := own_form h2
  exact h A' c' w' h2 h3 h4 (below_grown (Below.refl _ _) h3 hbase hown)
theorem wpList_app {ops : Array Oper} {rest : List Oper} {o : Oper} {a : Act} {Q : Exit → Act → World → Prop} (hgd : o.guard = none) (s x : Operand) (t : TypeId)
    (ho : o.op = .call { callee := .builtin .append, args := #[s, x], argTypes := #[t, t] }) (E : Elem P t e size bytes)
    (hs : a.eval s = v) (hown : w.ownsRow base e size v n xs) (A : Option Addr) (m c : Nat) (hx : a.eval x = .slice A m c) (news : List Value) (hr : Sees w A news) (hl : news.length = m * size)
    (h1 : ∀ u ∈ news, u.oneCell' = true) (N : Nat) (hN : n + m = N) (ys : List Value) (hys : xs ++ news = ys) (h63 : N ≤ maxLen) (hbytes : N * bytes ≤ 140737488355328) (hbase : base ≤ w.heap.size)
    (h : AppK w base e size v N ys fun v' w' => wpList P ops Q rest (a.put o.dst v') w') : wpList P ops Q (o :: rest) a w :=
  wpList_plain hgd fun _ hK => wp_app s x t ho E hs hown A m c hx news hr hl h1 N hN ys hys h63 hbytes hbase fun A' c' w' h2 h3 h4 h5 => hK _ _ (h A' c' w' h2 h3 h4 h5)
theorem step_app {ops : Array Oper} {o : Oper} {a : Act} {K : Act → World → Prop} {Q : Exit → Act → World → Prop} {X : Prop} (hgd : o.guard = none) (s x : Operand) (t : TypeId)
    (ho : o.op = .call { callee := .builtin .append, args := #[s, x], argTypes := #[t, t] }) (E : Elem P t e size bytes)
    (hs : a.eval s = v) (hown : w.ownsRow base e size v n xs) (A : Option Addr) (m c : Nat) (hx : a.eval x = .slice A m c) (news : List Value) (hr : Sees w A news) (hl : news.length = m * size)
    (h1 : ∀ u ∈ news, u.oneCell' = true) (N : Nat) (hN : n + m = N) (ys : List Value) (hys : xs ++ news = ys) (h63 : N ≤ maxLen) (hbytes : N * bytes ≤ 140737488355328) (hbase : base ≤ w.heap.size)
    (h : AppK w base e size v N ys fun v' w' => K (a.put o.dst v') w') :
    if Region.wanted o (yielded ops a.tmps) = true then Oper.wp P o a w K Q else X := by
  have hw : Region.wanted o (yielded ops a.tmps) = true := by simp [Region.wanted, hgd]
  rw [if_pos hw]
  exact wp_app s x t ho E hs hown A m c hx news hr hl h1 N hN ys hys h63 hbytes hbase h
theorem byte_one (l : List UInt8) : ∀ u ∈ l.map byteV, u.oneCell' = true := by
  intro u hu
  obtain ⟨b, _, rfl⟩ := List.mem_map.1 hu
  rfl
theorem SeesB.grown {A : Option Addr} {l : List UInt8} {row : Option Nat} (h : SeesB w A l) (hg : w.grownBy w' row) (hne : ∀ a, A = some a → some a.block ≠ row) : SeesB w' A l := Sees.grown h hg hne
end
end Go.Proofs.YtkmhmehofipehaaDoor
