/- append onto a row of the call's own, the source whatever reads as a list. -/
import Derived.Test.YtlcbfikmljmlpaaDoorTagsGetsM1
import Derived.Maps.AppendAt
import Derived.Deep.AppendLies
import Derived.RegionTactic
import Derived.OwnWalk
import Derived.ProofKit
import Derived.OpenShut
import Derived.ShutString
import Derived.ChangeOld
import Derived.Below
import Derived.Test.YtlcbfikmljmlpaaDoorProg
import Derived.WalkSpells
import Derived.WalkLawsBesides
import Derived.Deep.Slices
import Derived.Deep.Fields
import Derived.ChangeSame
import Derived.Test.YtlcbfikmljmlpaaDoorTagsGetsM2
namespace Go.Proofs.YtlcbfikmljmlpaaDoor
set_option linter.unusedVariables false
open Go.RowKit
/-- type t is a slice of e; an element takes so many cells and bytes -/
structure Elem (P : Program) (t e : TypeId) (size bytes : Nat) : Prop where
  ty : P.underlying t = some (.slice e)
  inf : ∃ i z, P.info? e = some i ∧ i.zero = some z ∧ i.size = size ∧ i.bytes = bytes ∧ z.cells.size = size
  pos : 0 < size
theorem Elem.mk' {P : Program} {t e : TypeId} {z : Value} {size bytes : Nat} (ty : P.underlying t = some (.slice e)) (h : (P.info? e).map (fun i => (i.zero, i.size, i.bytes)) = some (some z, size, bytes)) (hz : z.cells.size = size) (hp : 0 < size) : Elem P t e size bytes := by
  obtain ⟨i, h0, h1, h2, h3⟩ := info_parts h
  exact ⟨ty, ⟨i, z, h0, h1, h2, h3, hz⟩, hp⟩
section
variable {P : Program} {w w' : World} {base size bytes n : Nat} {t e : TypeId} {v : Value} {xs : List Value}
theorem own_nil (w : World) (base size : Nat) (e : TypeId) : w.ownsRow base e size (.slice none 0 0) 0 [] := ⟨by simp, .inl ⟨rfl, rfl⟩⟩
theorem own_base (h : w.ownsRow base e size v n xs) {k : Nat} (hk : v.ownBlock = some k) : base ≤ k := by
  rcases h.2 with ⟨rfl, _⟩ | ⟨g, cap, cur, rfl, hb, _⟩
  · simp [Value.ownBlock] at hk
  · simp [Value.ownBlock] at hk; omega
theorem own_form (h : w.ownsRow base e size v n xs) : ∃ A c, v = .slice A n c ∧ Sees w A xs ∧ (∀ a, A = some a → v.ownBlock = some a.block ∧ base ≤ a.block ∧ a.block < w.heap.size) := by
  obtain ⟨hl, h⟩ := h
  rcases h with ⟨rfl, rfl⟩ | ⟨g, cap, cur, rfl, hb, hg, hn, _, hs, hx⟩
  · have : xs = [] := List.eq_nil_of_length_eq_zero (by simpa using hl)
    subst this
    exact ⟨none, 0, rfl, Sees.nil _ _, fun a ha => by cases ha⟩
  · refine ⟨_, cap, rfl, ?_, fun a ha => ?_⟩
    · subst hx; exact (Sees.of_block hg rfl).take _
    · injection ha with ha; subst ha
      exact ⟨rfl, hb, (Array.getElem?_eq_some_iff.1 hg).1⟩
theorem own_other (h : w.ownsRow base e size v n xs) {g : Nat} {t : TypeId} {cs : Array Value} {fr : Nat × Nat} (hg : w.heap[g]? = some (.cells cs t fr)) (hne : e ≠ t) : v.ownBlock ≠ some g := by
  rcases h.2 with ⟨rfl, _⟩ | ⟨g', cap, cur, rfl, _, hh, _⟩
  · simp [Value.ownBlock]
  · intro he
    have : g' = g := by simpa [Value.ownBlock] using he
    subst this
    rw [hg] at hh
    injection hh with hh
    injection hh with _ ht
    exact hne ht.symm
theorem Sees.grown {A : Option Addr} {ys : List Value} {row : Option Nat} (h : Sees w A ys) (hg : w.grownBy w' row) (hne : ∀ a, A = some a → some a.block ≠ row) : Sees w' A ys := by
  intro i u hu
  obtain ⟨a, ha, hc⟩ := h i u hu
  exact ⟨a, ha, hg.cell hc (by rw [addr_block]; exact hne a ha)⟩
theorem Sees.lt {A : Option Addr} {ys : List Value} (h : Sees w A ys) (hy : ys ≠ []) {a : Addr} (ha : A = some a) : a.block < w.heap.size := by
  cases ys with
  | nil => exact absurd rfl hy
  | cons y ys =>
    obtain ⟨a', ha', hc⟩ := h 0 y (by simp)
    rw [ha] at ha'; injection ha' with ha'; subst ha'
    have := block_lt_of_cell hc
    rwa [addr_block] at this
/-- a slice of the call's own stays while another row grows -/
theorem below_grown {B : Nat} {w0 : World} (h : Below B w0 w) (hg : w.grownBy w' v.ownBlock) (hB : B ≤ w.heap.size) (hown : w.ownsRow B e size v n xs) : Below B w0 w' :=
  h.grown hg hB fun k hk => own_base hown hk
theorem run_app (w : World) (E : Elem P t e size bytes) (ty : TypeId) (hown : w.ownsRow base e size v n xs) (A : Option Addr) (m c : Nat) (news : List Value) (hr : Sees w A news) (hl : news.length = m * size)
    (h1 : ∀ u ∈ news, u.oneCell' = true) (h63 : n + m ≤ maxLen) (hbytes : (n + m) * bytes ≤ 140737488355328) (hbase : base ≤ w.heap.size) :
    ∃ v' w', (Builtin.append_ #[t, t] ty #[v, .slice A m c]).run P w = .ok v' w' ∧ w'.ownsRow base e size v' (n + m) (xs ++ news) ∧ w.grownBy w' v.ownBlock ∧
      (v'.ownBlock = v.ownBlock ∨ v'.ownBlock = some w.heap.size) := by
  obtain ⟨i, z, hi, hz, hs, hb, hzs⟩ := E.inf
  have hpos := E.pos
  rcases A with _ | ad
  · have hn : news = [] := by
      cases news with
      | nil => rfl
      | cons y ys => obtain ⟨a, ha, _⟩ := hr 0 y (by simp); cases ha
    subst hn
    have hm : m = 0 := by
      rcases Nat.eq_zero_or_pos m with h0 | h0
      · exact h0
      · have := Nat.mul_pos h0 hpos; simp at hl; omega
    subst hm
    refine ⟨v, w, ?_, by simpa using hown, World.grownBy.refl w _, .inl rfl⟩
    rcases hown.2 with ⟨rfl, rfl⟩ | ⟨g, cap, cur, rfl, _, _, hnc, _⟩
    · simp [Builtin.append_, run_underlying E.ty, sizeOf, typeInfo, hi, Builtin.lenOf, Builtin.firstCells]
    · simp [Builtin.append_, run_underlying E.ty, sizeOf, typeInfo, hi, Builtin.lenOf, Builtin.firstCells, hnc, storeCells]
  · have hcells : ∀ j u, news[j]? = some u → w.cell? (ad.add j) = some u := by
      intro j u hu
      obtain ⟨a, ha, hc⟩ := hr j u hu
      injection ha with ha; subst ha; exact hc
    obtain ⟨v', w', hrun, h2, h3, _, h5⟩ := run_append_own_at (P := P) w base t ty e i z size bytes E.ty hi hz hs hb hzs hpos v n xs hown ad m c news hl hcells h1 h63 hbytes hbase
    exact ⟨v', w', hrun, h2, h3, h5⟩
theorem own_sees {A : Option Addr} {c : Nat} (h : w.ownsRow base e size (.slice A n c) n xs) : Sees w A xs := by
  obtain ⟨A', c', hv, hs, _⟩ := own_form h
  injection hv with h1 _ _
  rw [h1]; exact hs
theorem own_addr {A : Option Addr} {c : Nat} (h : w.ownsRow base e size (.slice A n c) n xs) {a : Addr} (ha : A = some a) : base ≤ a.block ∧ a.block < w.heap.size := by
  obtain ⟨A', c', hv, _, hb⟩ := own_form h
  injection hv with h1 _ _
  exact (hb a (by rw [← h1]; exact ha)).2
theorem own_some {A : Option Addr} {c : Nat} (h : w.ownsRow base e size (.slice A n c) n xs) (hn : 0 < n) : ∃ g, A = some ⟨g, 0, none⟩ ∧ base ≤ g ∧ g < w.heap.size := by
  rcases h.2 with ⟨h', h0⟩ | ⟨g, cap, cur, h', hb, hg, _⟩
  · omega
  · injection h' with h1 _ _
    exact ⟨g, h1, hb, (Array.getElem?_eq_some_iff.1 hg).1⟩
/-- what an append leaves: the new value is a slice of the call's own, nothing else has turned -/
def AppK (w : World) (base : Nat) (e : TypeId) (size : Nat) (v : Value) (N : Nat) (ys : List Value) (K : Value → World → Prop) : Prop :=
  ∀ (A' : Option Addr) (c' : Nat) (w' : World), w'.ownsRow base e size (.slice A' N c') N ys → w.grownBy w' v.ownBlock → ((Value.slice A' N c').ownBlock = v.ownBlock ∨ (Value.slice A' N c').ownBlock = some w.heap.size) → Below base w w' → K (.slice A' N c') w'
theorem wp_app {o : Oper} {a : Act} {K : Act → World → Prop} {Q : Exit → Act → World → Prop} (s x : Operand) (t : TypeId)
    (ho : o.op = .call { callee := .builtin .append, args := #[s, x], argTypes := #[t, t] }) (E : Elem P t e size bytes)
    (hs : a.eval s = v) (hown : w.ownsRow base e size v n xs) (A : Option Addr) (m c : Nat) (hx : a.eval x = .slice A m c) (news : List Value) (hr : Sees w A news) (hl : news.length = m * size)
    (h1 : ∀ u ∈ news, u.oneCell' = true) (N : Nat) (hN : n + m = N) (ys : List Value) (hys : xs ++ news = ys) (h63 : N ≤ maxLen) (hbytes : N * bytes ≤ 140737488355328) (hbase : base ≤ w.heap.size)
    (h : AppK w base e size v N ys fun v' w' => K (a.put o.dst v') w') : o.wp P a w K Q := by
  subst hN hys
  obtain ⟨v', w', hrun, h2, h3, h4⟩ := run_app w E o.type hown A m c news hr hl h1 h63 hbytes hbase
  unfold Oper.wp execOp
  simp only [ho, resolve, invoke, builtin, Sem.run_bind, Sem.run_pure, Result.andThen_ok, List.map_toArray, List.map_cons, List.map_nil, hs, hx, hrun]
  obtain ⟨A', c', rfl, _⟩ := own_form h2
  exact h A' c' w' h2 h3 h4 (below_grown (Below.refl _ _) h3 hbase hown)
theorem wpList_app {ops : Array Oper} {rest : List Oper} {o : Oper} {a : Act} {Q : Exit → Act → World → Prop} (hgd : o.guard = none) (s x : Operand) (t : TypeId)
    (ho : o.op = .call { callee := .builtin .append, args := #[s, x], argTypes := #[t, t] }) (E : Elem P t e size bytes)
    (hs : a.eval s = v) (hown : w.ownsRow base e size v n xs) (A : Option Addr) (m c : Nat) (hx : a.eval x = .slice A m c) (news : List Value) (hr : Sees w A news) (hl : news.length = m * size)
    (h1 : ∀ u ∈ news, u.oneCell' = true) (N : Nat) (hN : n + m = N) (ys : List Value) (hys : xs ++ news = ys) (h63 : N ≤ maxLen) (hbytes : N * bytes ≤ 140737488355328) (hbase : base ≤ w.heap.size)
    (h : AppK w base e size v N ys fun v' w' => wpList P ops Q rest (a.put o.dst v') w') : wpList P ops Q (o :: rest) a w :=
  wpList_plain hgd fun _ hK => wp_app s x t ho E hs hown A m c hx news hr hl h1 N hN ys hys h63 hbytes hbase fun A' c' w' h2 h3 h4 h5 => hK _ _ (h A' c' w' h2 h3 h4 h5)
theorem step_app {ops : Array Oper} {o : Oper} {a : Act} {K : Act → World → Prop} {Q : Exit → Act → World → Prop} {X : Prop} (hgd : o.guard = none) (s x : Operand) (t : TypeId)
    (ho : o.op = .call { callee := .builtin .append, args := #[s, x], argTypes := #[t, t] }) (E : Elem P t e size bytes)
    (hs : a.eval s = v) (hown : w.ownsRow base e size v n xs) (A : Option Addr) (m c : Nat) (hx : a.eval x = .slice A m c) (news : List Value) (hr : Sees w A news) (hl : news.length = m * size)
    (h1 : ∀ u ∈ news, u.oneCell' = true) (N : Nat) (hN : n + m = N) (ys : List Value) (hys : xs ++ news = ys) (h63 : N ≤ maxLen) (hbytes : N * bytes ≤ 140737488355328) (hbase : base ≤ w.heap.size)
    (h : AppK w base e size v N ys fun v' w' => K (a.put o.dst v') w') :
    if Region.wanted o (yielded ops a.tmps) = true then Oper.wp P o a w K Q else X := by
  have hw : Region.wanted o (yielded ops a.tmps) = true := by simp [Region.wanted, hgd]
  rw [if_pos hw]
  exact wp_app s x t ho E hs hown A m c hx news hr hl h1 N hN ys hys h63 hbytes hbase h
theorem byte_one (l : List UInt8) : ∀ u ∈ l.map byteV, u.oneCell' = true := by
  intro u hu
  obtain ⟨b, _, rfl⟩ := List.mem_map.1 hu
  rfl
theorem SeesB.grown {A : Option Addr} {l : List UInt8} {row : Option Nat} (h : SeesB w A l) (hg : w.grownBy w' row) (hne : ∀ a, A = some a → some a.block ≠ row) : SeesB w' A l := Sees.grown h hg hne
end
end Go.Proofs.YtlcbfikmljmlpaaDoor
/- Arguments opened: what a value that was read as data is. -/
namespace Go.Proofs.YtlcbfikmljmlpaaDoor
set_option linter.unusedVariables false
open Go.ChangeShapes Go.WideShapes Go.ChangeAt Go.RowKit
section
variable {H : Type} {enc : TypeId × Value → H} {P : Program} {w : World} {base b0 : Nat} {spare : Nat → Bool} {held : Bool} {r : Reach}
theorem wf_u8 {z : Int} (h : (Lit.int .u8 z).wf = true) : 0 ≤ z ∧ z < 256 := by
  simp [Lit.wf, IntKind.min, IntKind.max, IntKind.signed, IntKind.bits] at h; omega
theorem wf_u32 {z : Int} (h : (Lit.int .u32 z).wf = true) : 0 ≤ z ∧ z < 4294967296 := by
  simp [Lit.wf, IntKind.min, IntKind.max, IntKind.signed, IntKind.bits] at h; omega
theorem wf_u64 {z : Int} (h : (Lit.int .u64 z).wf = true) : 0 ≤ z ∧ z < 18446744073709551616 := by
  simp [Lit.wf, IntKind.min, IntKind.max, IntKind.signed, IntKind.bits] at h; omega
theorem wf_i64 {z : Int} (h : (Lit.int .i64 z).wf = true) : -9223372036854775808 ≤ z ∧ z < 9223372036854775808 := by
  simp [Lit.wf, IntKind.min, IntKind.max, IntKind.signed, IntKind.bits] at h; omega
theorem ints_raw {t e : TypeId} {k : IntKind} {v : Value} {y : DataW H × List MemPlace} {n : Nat} (ht : P.underlying t = some (.slice e)) (he : P.underlying e = some (.int k)) (hc : P.cellsOf e = 1)
    (h : DataW.trod enc P w base spare held n t [v] = some y) :
    ∃ (A : Option Addr) (c : Nat) (zs : List Int), v = .slice A zs.length c ∧ Sees w A (zs.map fun z => .int k z) ∧ zs.length ≤ c ∧ c ≤ maxLen ∧ (∀ z ∈ zs, (Lit.int k z).wf = true) := by
  rcases open_ints ht he hc h with ⟨hcs, _⟩ | ⟨x, l, c', zs, hcs, _, hl, hm, hz, _, hcell, hwz⟩
  · injection hcs with hcs _
    subst hcs
    exact ⟨none, 0, [], rfl, Sees.nil _ _, by simp, by simp, by simp⟩
  · injection hcs with hcs _
    subst hcs
    have hln : l ≤ zs.length := by rw [hz]; split <;> omega
    have hlen : (zs.take l).length = l := by simp; omega
    refine ⟨some x, c', zs.take l, by rw [hlen], ?_, by rw [hlen]; exact hl, hm, fun z hz' => hwz z (List.mem_of_mem_take hz')⟩
    intro i v hv
    refine ⟨x, rfl, ?_⟩
    rw [List.getElem?_map] at hv
    have hin : i < l := by
      rcases Nat.lt_or_ge i l with h1 | h1
      · exact h1
      · rw [List.getElem?_eq_none (by simp; omega)] at hv; cases hv
    rw [List.getElem?_take_of_lt hin] at hv
    rw [hcell i (by omega)]
    rw [List.getElem?_eq_getElem (by omega : i < zs.length)] at hv
    rw [← hv]; simp [List.getD, List.getElem?_eq_getElem (by omega : i < zs.length)]
theorem int_raw {t : TypeId} {k : IntKind} {v : Value} {y : DataW H × List MemPlace} {n : Nat} (ht : P.underlying t = some (.int k)) (h : DataW.trod enc P w base spare held n t [v] = some y) :
    ∃ z, v = .int k z ∧ (Lit.int k z).wf = true := by
  obtain ⟨z, h1, _, hw⟩ := DataW.trod_int ht h
  injection h1 with h1 _
  exact ⟨z, h1, hw⟩
theorem open_ints_of {t e : TypeId} {k : IntKind} {v : Value} {d : DataW H} {p : List MemPlace} (ht : P.underlying t = some (.slice e)) (he : P.underlying e = some (.int k)) (hc : P.cellsOf e = 1)
    (hv : Value.okWide P w r b0 t v) (h : DataW.Trod enc P w base spare held t v d p) :
    ∃ (A : Option Addr) (c : Nat) (zs : List Int), v = .slice A zs.length c ∧ Sees w A (zs.map fun z => .int k z) ∧ zs.length ≤ c ∧ c ≤ maxLen ∧ (∀ z ∈ zs, (Lit.int k z).wf = true) := by
  obtain ⟨A, n, c, rfl⟩ := okWide_slice ht hv
  obtain ⟨fuel, hf⟩ := h
  rcases open_ints ht he hc hf with ⟨hcs, _⟩ | ⟨x, l, c', zs, hcs, _, hl, hm, hz, _, hcell, hwz⟩
  · simp [Value.cells] at hcs
    obtain ⟨rfl, rfl, rfl⟩ := hcs
    exact ⟨none, 0, [], rfl, Sees.nil _ _, by simp, by simp, by simp⟩
  · simp [Value.cells] at hcs
    obtain ⟨rfl, rfl, rfl⟩ := hcs
    have hln : n ≤ zs.length := by rw [hz]; split <;> omega
    have hlen : (zs.take n).length = n := by simp; omega
    refine ⟨some x, c, zs.take n, by rw [hlen], ?_, by rw [hlen]; exact hl, hm, fun z hz' => hwz z (List.mem_of_mem_take hz')⟩
    intro i v hv
    refine ⟨x, rfl, ?_⟩
    rw [List.getElem?_map] at hv
    have hin : i < n := by
      rcases Nat.lt_or_ge i n with h1 | h1
      · exact h1
      · rw [List.getElem?_eq_none (by simp; omega)] at hv; cases hv
    rw [List.getElem?_take_of_lt hin] at hv
    rw [hcell i (by omega)]
    rw [List.getElem?_eq_getElem (by omega : i < zs.length)] at hv
    rw [← hv]; simp [List.getD, List.getElem?_eq_getElem (by omega : i < zs.length)]
theorem open_bytes {t e : TypeId} {v : Value} {d : DataW H} {p : List MemPlace} (ht : P.underlying t = some (.slice e)) (he : P.underlying e = some (.int .u8)) (hc : P.cellsOf e = 1)
    (hv : Value.okWide P w r b0 t v) (h : DataW.Trod enc P w base spare held t v d p) :
    ∃ (A : Option Addr) (c : Nat) (l : List UInt8), v = .slice A l.length c ∧ SeesB w A l ∧ l.length ≤ c ∧ c ≤ maxLen := by
  obtain ⟨A, c, zs, rfl, hs, h1, h2, hw⟩ := open_ints_of ht he hc hv h
  refine ⟨A, c, zs.map fun z => UInt8.ofNat z.toNat, by simp, ?_, by simpa using h1, h2⟩
  have e : (zs.map fun z => UInt8.ofNat z.toNat).map byteV = zs.map fun z => Value.int .u8 z := by
    rw [List.map_map]
    apply List.map_congr_left
    intro z hz
    have := wf_u8 (hw z hz)
    simp [byteV]; omega
  unfold SeesB; rw [e]; exact hs
end
end Go.Proofs.YtlcbfikmljmlpaaDoor
/- Slices of acts: four cells each. -/
namespace Go.Proofs.YtlcbfikmljmlpaaDoor
set_option linter.unusedVariables false
open Go.RowKit
/-- a call of a maker -/
structure Deed where
  k : Int
  v : Nat
  n : Int
  s : ByteArray
def Deed.cells (d : Deed) : List Value := [.int .i64 d.k, .int .u64 (d.v : Int), .int .i64 d.n, .string d.s]
def Deed.fine (d : Deed) : Prop := d.v < 18446744073709551616
/-- a slice that begins at A reads as these acts -/
def SeesA (w : World) (A : Option Addr) (l : List Deed) : Prop := ∀ (i : Nat) (h : i < l.length), ∃ a, A = some a ∧ w.cell? (a.add (i * 4)) = some (.int .i64 l[i].k) ∧ w.cell? ((a.add (i * 4)).add 1) = some (.int .u64 (l[i].v : Int)) ∧ w.cell? ((a.add (i * 4)).add 2) = some (.int .i64 l[i].n) ∧ w.cell? ((a.add (i * 4)).add 3) = some (.string l[i].s)
theorem SeesA.below {w w' : World} {A : Option Addr} {l : List Deed} (h : SeesA w A l) (hb : Below w.heap.size w w') : SeesA w' A l := by
  intro i hi
  obtain ⟨a, ha, h0, h1, h2, h3⟩ := h i hi
  exact ⟨a, ha, (hb.cell (block_lt_of_cell h0)).trans h0, (hb.cell (block_lt_of_cell h1)).trans h1, (hb.cell (block_lt_of_cell h2)).trans h2, (hb.cell (block_lt_of_cell h3)).trans h3⟩
theorem addr_one (a : Addr) (j : Nat) (h : j ≠ 0) : a.add j = { block := a.block, off := a.off + j } := by unfold Addr.add; rw [if_neg h]
theorem SeesA.at {w : World} {A : Option Addr} {l : List Deed} (h : SeesA w A l) {i : Nat} (hi : i < l.length) : ∃ a, A = some a ∧ w.cell? (a.add (i * 4)) = some (.int .i64 l[i].k) ∧ w.cell? { block := (a.add (i * 4)).block, off := (a.add (i * 4)).off + 1 } = some (.int .u64 (l[i].v : Int)) ∧ w.cell? { block := (a.add (i * 4)).block, off := (a.add (i * 4)).off + 2 } = some (.int .i64 l[i].n) ∧ w.cell? { block := (a.add (i * 4)).block, off := (a.add (i * 4)).off + 3 } = some (.string l[i].s) := by
  obtain ⟨a, ha, h0, h1, h2, h3⟩ := h i hi
  rw [addr_one _ 1 (by omega)] at h1
  rw [addr_one _ 2 (by omega)] at h2
  rw [addr_one _ 3 (by omega)] at h3
  exact ⟨a, ha, h0, h1, h2, h3⟩
section
open Go.ChangeShapes Go.WideShapes Go.ChangeAt Go.Deep
variable {H : Type} {enc : TypeId × Value → H} {P : Program} {w : World} {base b0 : Nat} {spare : Nat → Bool} {held : Bool} {r : Reach}
theorem open_slice_fields {t e : TypeId} {fs : Array Field} {fuel : Nat} {cs : List Value} {x : DataW H × List MemPlace} (ht : P.underlying t = some (.slice e)) (he : P.underlying e = some (.struct fs))
    (hone : oneCellFields P fs = true) (hC : P.cellsOf e = fs.size) (h : DataW.trod enc P w base spare held fuel t cs = some x) :
    (cs = [.slice none 0 0] ∧ x = (.nil, [])) ∨
    ∃ (a : Addr) (len cap m : Nat) (D : Nat → DataW H) (Pl : Nat → List MemPlace), cs = [.slice (some a) len cap] ∧ base ≤ a.block ∧ len ≤ cap ∧ cap ≤ maxLen ∧ m = (if spare a.block then cap else len) ∧
      x = (.slice ((List.range len).map D) ((List.range (m - len)).map fun j => D (len + j)), MemPlace.row a (m * fs.size) ++ (List.range m).flatMap Pl) ∧
      ∀ i, i < m → ∃ (ys : List (DataW H × List MemPlace)) (n : Nat), D i = .agg (ys.map (·.1)) ∧ Pl i = ys.flatMap (·.2) ∧ ys.length = fs.size ∧
        ∀ (j : Nat) (f : Field), fs[j]? = some f → ∃ (v : Value) (y : DataW H × List MemPlace), w.cell? (a.add (i * fs.size + j)) = some v ∧ ys[j]? = some y ∧ DataW.trod enc P w base spare held n f.type [v] = some y := by
  rcases open_slice ht h with h0 | ⟨a, len, cap, m, n, D, Pl, hcs, hb, hl, hm, hmm, hx, hi⟩
  · exact .inl h0
  · refine .inr ⟨a, len, cap, m, D, Pl, hcs, hb, hl, hm, hmm, by rw [hC] at hx; exact hx, fun i him => ?_⟩
    obtain ⟨cs', hc, ht'⟩ := hi i him
    rw [hC] at hc
    obtain ⟨ys, n', hn', hy, hlen, hyl, hf⟩ := DataW.trod_struct he ht'
    obtain ⟨_, hcl, hat⟩ := World.cells?_some hc
    simp only [Prod.mk.injEq] at hy
    refine ⟨ys, n', hy.1, hy.2, hyl, fun j f hj => ?_⟩
    obtain ⟨ho, hk⟩ := hone_of hone j f hj
    have hjl : j < fs.size := (Array.getElem?_eq_some_iff.1 hj).1
    have hcell := hat j hjl
    have hv : cs'[j]? = some (cs'[j]'(by omega)) := List.getElem?_eq_getElem (by omega)
    have h1 := hf j f hj
    rw [ho, hk] at h1
    have hone' : (cs'.drop j).take 1 = [cs'[j]'(by omega)] := by
      rw [List.drop_eq_getElem_cons (by omega)]
      rfl
    rw [hone'] at h1
    have hys : ys[j]? = some (ys[j]'(by omega)) := List.getElem?_eq_getElem (by omega)
    refine ⟨_, _, ?_, hys, h1.trans hys⟩
    rw [← Go.Deep.add_add, hcell, hv]
/-- the act that lies at an address -/
noncomputable def deedAt (w : World) (a : Addr) : Deed :=
  ⟨match w.cell? a with | some (.int _ z) => z | _ => 0, match w.cell? (a.add 1) with | some (.int _ z) => z.toNat | _ => 0, match w.cell? (a.add 2) with | some (.int _ z) => z | _ => 0, match w.cell? (a.add 3) with | some (.string s) => s | _ => ByteArray.empty⟩
theorem open_acts {t e : TypeId} {v : Value} {d : DataW H} {p : List MemPlace} (ht : P.underlying t = some (.slice e)) (f0 f1 f2 f3 : Field) (he : P.underlying e = some (.struct #[f0, f1, f2, f3]))
    (hone : oneCellFields P #[f0, f1, f2, f3] = true) (hC : P.cellsOf e = 4) (k0 : P.underlying f0.type = some (.int .i64)) (k1 : P.underlying f1.type = some (.int .u64)) (k2 : P.underlying f2.type = some (.int .i64)) (k3 : P.underlying f3.type = some .string)
    (hv : Value.okWide P w r b0 t v) (h : DataW.Trod enc P w base spare held t v d p) :
    ∃ (A : Option Addr) (c : Nat) (l : List Deed), v = .slice A l.length c ∧ SeesA w A l ∧ l.length ≤ c ∧ c ≤ maxLen ∧ ∀ x ∈ l, x.fine := by
  obtain ⟨A, n, c, rfl⟩ := okWide_slice ht hv
  obtain ⟨fuel, hf⟩ := h
  rcases open_slice_fields ht he hone hC hf with ⟨hcs, _⟩ | ⟨a, len, cap, m, D, Pl, hcs, _, hl, hm, hmm, _, hi⟩
  · simp [Value.cells] at hcs
    obtain ⟨rfl, rfl, rfl⟩ := hcs
    exact ⟨none, 0, [], rfl, fun i hi => by simp at hi, by simp, by simp, by simp⟩
  · simp [Value.cells] at hcs
    obtain ⟨rfl, rfl, rfl⟩ := hcs
    have hnm : n ≤ m := by rw [hmm]; split <;> omega
    have key : ∀ i, i < n → w.cell? (a.add (i * 4)) = some (.int .i64 (deedAt w (a.add (i * 4))).k) ∧ w.cell? ((a.add (i * 4)).add 1) = some (.int .u64 ((deedAt w (a.add (i * 4))).v : Int)) ∧ w.cell? ((a.add (i * 4)).add 2) = some (.int .i64 (deedAt w (a.add (i * 4))).n) ∧ w.cell? ((a.add (i * 4)).add 3) = some (.string (deedAt w (a.add (i * 4))).s) ∧ (deedAt w (a.add (i * 4))).fine := by
      intro i hin
      obtain ⟨ys, q, _, _, _, hg⟩ := hi i (by omega)
      obtain ⟨v0, y0, c0, _, t0⟩ := hg 0 f0 rfl
      obtain ⟨v1, y1, c1, _, t1⟩ := hg 1 f1 rfl
      obtain ⟨v2, y2, c2, _, t2⟩ := hg 2 f2 rfl
      obtain ⟨v3, y3, c3, _, t3⟩ := hg 3 f3 rfl
      obtain ⟨z0, rfl, _⟩ := int_raw k0 t0
      obtain ⟨z1, rfl, hz1⟩ := int_raw k1 t1
      obtain ⟨z2, rfl, _⟩ := int_raw k2 t2
      obtain ⟨s, hs, _⟩ := DataW.trod_string k3 t3
      injection hs with hs _
      subst hs
      have hw := wf_u64 hz1
      change w.cell? (a.add (i * 4 + 0)) = _ at c0
      change w.cell? (a.add (i * 4 + 1)) = _ at c1
      change w.cell? (a.add (i * 4 + 2)) = _ at c2
      change w.cell? (a.add (i * 4 + 3)) = _ at c3
      rw [Nat.add_zero] at c0
      rw [← addr_add] at c1 c2 c3
      unfold deedAt Deed.fine
      simp only [c0, c1, c2, c3]
      exact ⟨trivial, by rw [Int.toNat_of_nonneg hw.1], trivial, trivial, by omega⟩
    refine ⟨some a, c, (List.range n).map fun i => deedAt w (a.add (i * 4)), by simp, ?_, by simpa using hl, hm, ?_⟩
    · intro i hi'
      have hin : i < n := by simpa using hi'
      obtain ⟨h0, h1, h2, h3, _⟩ := key i hin
      refine ⟨a, rfl, ?_⟩
      simp only [List.getElem_map, List.getElem_range]
      exact ⟨h0, h1, h2, h3⟩
    · intro x hx
      obtain ⟨i, hi', rfl⟩ := List.mem_map.1 hx
      exact (key i (by simpa using hi')).2.2.2.2
end
end Go.Proofs.YtlcbfikmljmlpaaDoor
/- Small letters: the reference's. -/
namespace Go.Proofs.YtlcbfikmljmlpaaDoor
set_option linter.unusedVariables false
open Go.RowKit
def fillTo (l : List UInt8) (k : Nat) : List Value := (l.take k).map (fun b => byteV (foldB b)) ++ List.replicate (l.length - k) (.int .u8 0)
theorem fillTo_length (l : List UInt8) (k : Nat) (h : k ≤ l.length) : (fillTo l k).length = l.length := by unfold fillTo; simp; omega
theorem fillTo_set (l : List UInt8) (k : Nat) (h : k < l.length) : (fillTo l k).set k (byteV (foldB l[k])) = fillTo l (k + 1) := by
  unfold fillTo
  rw [List.set_append_right _ _ (by simp; omega)]
  have e : k - (List.map (fun b => byteV (foldB b)) (List.take k l)).length = 0 := by simp; omega
  obtain ⟨m, hm⟩ : ∃ m, l.length - k = m + 1 := ⟨l.length - k - 1, by omega⟩
  rw [e, hm, show l.length - (k + 1) = m by omega, List.replicate_succ, List.set_cons_zero, List.take_succ_eq_append_getElem h, List.map_append, List.append_assoc]
  rfl
theorem fillTo_all (l : List UInt8) : fillTo l l.length = (l.map foldB).map byteV := by unfold fillTo; simp
set_option maxRecDepth 20000 in
set_option maxHeartbeats 1000000 in
theorem rfold_any (s : ByteArray) (w : World) (hs : s.size ≤ 140737488355328) :
    Calls Tryd.prog 22 #[.string s] w fun e w' => e = .returned (.string (foldS s)) ∧ Below w.heap.size w w' := by
  have hmk := mk_bytes s.size (by omega) w
  have hown := mk_own s.size (by omega) w
  have hb0 : Below w.heap.size w (w.alloc (.cells (madeCells #[.int .u8 0] s.size) 5)) := (Below.refl _ _).alloc (Nat.le_refl _) _
  have hidx : ∀ (k : Nat) (h : k < s.size), ∃ h2 : k < s.data.toList.length, s[k]'h = s.data.toList[k] := fun k h => ⟨by simpa using h, by simp [ByteArray.getElem_eq_getElem_data]⟩
  have hlen : s.data.toList.length = s.size := by rw [Array.length_toList]; rfl
  unfold foldS
  generalize s.data.toList = l at *
  go_enter Tryd.func22, Tryd.ntmps22
  go_wp2_with fail
  generalize hw0 : w.alloc (.cells (madeCells #[.int .u8 0] s.size) 5) = w0 at *
  clear hw0
  go_loopw [4] (fun i wr => ∃ k : Nat, k ≤ s.size ∧ i = .int .i64 (k : Int) ∧ wr.ownsRow w.heap.size 5 1 (.slice (some ⟨w.heap.size, 0, none⟩) s.size s.size) s.size (fillTo l k) ∧ Below w.heap.size w wr) (fun i _ => s.size - (intOf i).toNat)
  case atStart => exact ⟨0, by omega, rfl, by simpa [fillTo, hlen] using hown, hb0⟩
  case round =>
    obtain ⟨k, hk, rfl, ho, hb⟩ := hrel
    by_cases hlt : k < s.size
    · have dk : decide ((k : Int) < (s.size : Int)) = true := decide_eq_true (by omega)
      have hlt' : k < s.size := by omega
      obtain ⟨h2, hix⟩ := hidx k hlt'
      have hxb := (l[k]'h2).toNat_lt
      have hset := fillTo_set l k h2
      rw [foldB_v] at hset
      have hFN := hid (show foldN (l[k]'h2).toNat = if 65 ≤ (l[k]'h2).toNat ∧ (l[k]'h2).toNat ≤ 90 then (l[k]'h2).toNat + 32 else (l[k]'h2).toNat from rfl)
      have hxn : (s[k]'hlt').toNat = (l[k]'h2).toNat := by rw [hix]
      clear hix
      generalize (l[k]'h2).toNat = x at *
      have hgc : ∀ u : Value, ∃ v, (fillTo l k)[k]? = some v := fun u => ⟨_, List.getElem?_eq_getElem (by rw [fillTo_length l k (by omega)]; omega)⟩
      obtain ⟨u0, hu0⟩ := hgc undef
      have hc := (ho.cellAt k (by omega)).trans hu0
      have hf := ho.frozenAt k
      have hst := (ho.stored k (.int .u8 (x : Int))).1
      have hb1 : Below w.heap.size w (wr.setCell ⟨w.heap.size, k, none⟩ (.int .u8 (x : Int))) := hb.setCell (Nat.le_refl _) _
      by_cases h65 : 65 ≤ x
      · have d65 : decide (65 ≤ (x : Int)) = true := decide_eq_true (by omega)
        by_cases h90 : x ≤ 90
        · have d90 : decide ((x : Int) ≤ 90) = true := decide_eq_true (by omega)
          have z : ((x : Int) + 32) % 256 = (x : Int) + 32 := by omega
          have hc2 := hst.cellAt k (by omega)
          rw [List.getElem?_set_self (by rw [fillTo_length l k (by omega)]; omega)] at hc2
          have hf2 := hst.frozenAt k
          have hst2 := (hst.stored k (.int .u8 ((x : Int) + 32))).1
          have hb2 : Below w.heap.size w ((wr.setCell ⟨w.heap.size, k, none⟩ (.int .u8 (x : Int))).setCell ⟨w.heap.size, k, none⟩ (.int .u8 ((x : Int) + 32))) := hb1.setCell (Nat.le_refl _) _
          rw [List.set_set, show (x : Int) + 32 = ((foldN x : Nat) : Int) by rw [hFN.out, if_pos ⟨h65, h90⟩]; omega, hset] at hst2
          rw [show ((foldN x : Nat) : Int) = (x : Int) + 32 by rw [hFN.out, if_pos ⟨h65, h90⟩]; omega] at hst2
          clear hst hset ho
          go_wp2_with fail
          exact ⟨⟨k + 1, by omega, by go_num, hst2, hb2⟩, by simp [intOf]; omega⟩
        · have d90 : decide ((x : Int) ≤ 90) = false := decide_eq_false (by omega)
          rw [show foldN x = x by rw [hFN.out, if_neg (by omega)]] at hset
          rw [hset] at hst
          clear hset ho
          go_wp2_with fail
          exact ⟨⟨k + 1, by omega, by go_num, hst, hb1⟩, by simp [intOf]; omega⟩
      · have d65 : decide (65 ≤ (x : Int)) = false := decide_eq_false (by omega)
        rw [show foldN x = x by rw [hFN.out, if_neg (by omega)]] at hset
        rw [hset] at hst
        clear hset ho
        go_wp2_with fail
        exact ⟨⟨k + 1, by omega, by go_num, hst, hb1⟩, by simp [intOf]; omega⟩
    · obtain rfl : k = s.size := by omega
      have dk : decide ((s.size : Int) < (s.size : Int)) = false := decide_eq_false (by omega)
      rw [show fillTo l s.size = (l.map foldB).map byteV by rw [← hlen, fillTo_all]] at ho
      have hsee : SeesB wr (some ⟨w.heap.size, 0, none⟩) (l.map foldB) := own_sees ho
      have hcv2 := conv_bs (some ⟨w.heap.size, 0, none⟩) s.size (l.map foldB) wr hsee
      rw [List.length_map, hlen] at hcv2
      clear ho hsee
      go_wp2_with fail
      go_ret
      exact ⟨rfl, hb⟩
end Go.Proofs.YtlcbfikmljmlpaaDoor
