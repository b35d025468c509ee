/- Tags in memory: two cells each; who is alike; what is found by a function. -/
import Derived.Test.YtkmhmehofipehaaDoorK8
import Derived.Test.YtkmhmehofipehaaDoorK7
import Derived.Test.YtkmhmehofipehaaDoorK3
import Derived.Test.YtkmhmehofipehaaDoorProg
import Derived.Test.YtkmhmehofipehaaDoorK1
import Derived.Laws.RangeAny
import Derived.WalkKit
import Derived.Lib.LaidU8T
import Derived.Shelf.Unicode.ValidAny
import Derived.Lib.ValidLaws
import Derived.Lib.TrimUEq
namespace Go.Proofs.YtkmhmehofipehaaDoor
set_option linter.unusedVariables false
open Go.RowKit
structure TagV where
  k : ByteArray
  v : ByteArray
/-- a slice that begins at A reads as these tags -/
def SeesT (w : World) (A : Option Addr) (l : List TagV) : Prop := ∀ (i : Nat) (h : i < l.length), ∃ a, A = some a ∧ w.cell? (a.add (i * 2)) = some (.string l[i].k) ∧ w.cell? ((a.add (i * 2)).add 1) = some (.string l[i].v)
theorem SeesT.below {w w' : World} {A : Option Addr} {l : List TagV} (h : SeesT w A l) (hb : Below w.heap.size w w') : SeesT w' A l := by
  intro i hi
  obtain ⟨a, ha, h0, h1⟩ := h i hi
  exact ⟨a, ha, (hb.cell (block_lt_of_cell h0)).trans h0, (hb.cell (block_lt_of_cell h1)).trans h1⟩
theorem SeesT.at {w : World} {A : Option Addr} {l : List TagV} (h : SeesT w A l) {i : Nat} (hi : i < l.length) : ∃ a, A = some a ∧ w.cell? (a.add (i * 2)) = some (.string l[i].k) ∧ w.cell? { block := (a.add (i * 2)).block, off := (a.add (i * 2)).off + 1 } = some (.string l[i].v) := by
  obtain ⟨a, ha, h0, h1⟩ := h i hi
  rw [addr_one _ 1 (by omega)] at h1
  exact ⟨a, ha, h0, h1⟩
theorem SeesT.take {w : World} {A : Option Addr} {l : List TagV} (h : SeesT w A l) (n : Nat) : SeesT w A (l.take n) := by
  intro i hi
  have hl : i < l.length := by rw [List.length_take] at hi; omega
  rw [List.getElem_take]
  exact h i hl
/-- l[:i] -/
def preA (A : Option Addr) (c : Nat) : Option Addr := if c = 0 then A else A.map (·.add 0)
theorem preA_is (A : Option Addr) (c : Nat) : preA A c = A := by
  unfold preA
  split
  · rfl
  · cases A <;> rfl
theorem pre_slice (A : Option Addr) (n c i : Nat) (h2 : i ≤ c) (w : World) : (Instr.sliceAt 26 (.slice A n c) none (some (.int .i64 (i : Int))) none).run Tryd.prog w = .ok (.slice A i c) w := by
  have d2 : (i : Int) ≤ (c : Int) := by omega
  have d0 : (0 : Int) ≤ (i : Int) := by omega
  have e := preA_is A c
  unfold preA at e
  go_simp
  all_goals first | rfl | (simp_all; done)
theorem run_sliceop_h {P : Program} {o : Oper} {a : Act} {w : World} (t : TypeId) (x hi : Operand) (ho : o.op = .slice t x none (some hi) none) (xv hv v : Value) (hx : a.eval x = xv) (hh : a.eval hi = hv)
    (hr : (Instr.sliceAt t xv none (some hv) none).run P w = .ok v w) : (execOp a.eval o).run P w = .ok (.value v) w := by
  unfold execOp
  simp only [ho, hx, hh, Option.map, Sem.run_bind, Sem.run_pure, Result.andThen_ok, hr]
/-- texts compared by their bytes -/
theorem list_eql (F K : ByteArray) : (F.toList == K.toList) = decide (F = K) := by
  by_cases h : F = K
  · subst h
    rw [decide_eq_true rfl]
    exact beq_self_eq_true _
  · rw [decide_eq_false h]
    apply beq_eq_false_iff_ne.2
    intro he
    rw [ByteArray.toList_eq, ByteArray.toList_eq] at he
    exact h (ByteArray.ext (Array.toList_inj.1 he))
/-- is a tag's key alike to this one? -/
def alike (K : ByteArray) (t : TagV) : Bool := decide (foldS t.k = K)
set_option maxHeartbeats 1000000 in
theorem like_any (key : ByteArray) (w : World) (hs : key.size ≤ 140737488355328) :
    Calls Tryd.prog 96 #[.string key] w fun e w' => e = .returned (.func (.func 112) #[] #[.pointer (some ⟨w.heap.size, 0, none⟩)]) ∧ w'.cell? ⟨w.heap.size, 0, none⟩ = some (.string (foldS key)) ∧ Below w.heap.size w w' := by
  have hb0 : Below w.heap.size w (w.alloc (.cells #[.string key] 9)) := (Below.refl _ _).alloc (Nat.le_refl _) _
  have hrow := heap_alloc_new w (.cells #[.string key] 9)
  have c0 : (w.alloc (.cells #[.string key] 9)).cell? ⟨w.heap.size, 0, none⟩ = some (.string key) := by rw [cell_of_row _ _ _ _ _ _ hrow]; rfl
  have hF := hid (fun W => fold_any key W hs)
  generalize foldS key = K at *
  go_enter Tryd.func96, Tryd.ntmps96
  go_wp2_with fail
  generalize w.alloc (.cells #[.string key] 9) = w0 at *
  refine (hF.out w0).mono ?_
  rintro e w1 ⟨rfl, hb1⟩
  have hlt := (Array.getElem?_eq_some_iff.1 hrow).1
  have hrow1 := (hb1.block _ hlt).trans hrow
  have c1 := keep1 hb1 c0
  have f1 := frozen_of_row _ _ 0 _ _ hrow1
  have hbW := (hb0.trans (hb1.mono hb0.size)).setCell (p := ⟨w.heap.size, 0, none⟩) (Nat.le_refl _) (.string K)
  have hr2 := heap_setCell_same w1 w.heap.size 0 _ _ (.string K) hrow1
  have hc2 : (w1.setCell ⟨w.heap.size, 0, none⟩ (.string K)).cell? ⟨w.heap.size, 0, none⟩ = some (.string K) := by rw [cell_of_row _ _ _ _ _ _ hr2]; rfl
  clear hF c0 hrow hrow1 hr2
  go_wp2_with fail
  go_ret
  exact ⟨rfl, hc2, hbW⟩
theorem like_enter (args : Array Value) (W : World) : (callFunc 112 args).run Tryd.prog W = .ok (.enter 112 args) W := by go_simp
set_option maxRecDepth 20000 in
set_option maxHeartbeats 1000000 in
theorem like1_any (g : Nat) (K : ByteArray) (t : TagV) (w : World) (hg : w.cell? ⟨g, 0, none⟩ = some (.string K)) (hs : t.k.size ≤ 140737488355328) :
    Calls Tryd.prog 112 #[.agg #[.string t.k, .string t.v], .pointer (some ⟨g, 0, none⟩)] w fun e w' => e = .returned (.bool (alike K t)) ∧ Below w.heap.size w w' := by
  obtain ⟨R, hR⟩ : ∃ R, R = alike K t := ⟨_, rfl⟩
  rw [← hR]
  unfold alike at hR
  obtain ⟨k, v⟩ := t
  simp only at hR hs ⊢
  have hb0 : Below w.heap.size w (w.alloc (.cells #[.string k, .string v] 63)) := (Below.refl _ _).alloc (Nat.le_refl _) _
  have hrow := heap_alloc_new w (.cells #[.string k, .string v] 63)
  have c0 : (w.alloc (.cells #[.string k, .string v] 63)).cell? ⟨w.heap.size, 0, none⟩ = some (.string k) := by rw [cell_of_row _ _ _ _ _ _ hrow]; rfl
  have c1 := keep1 hb0 hg
  have hF := hid (fun W => fold_any k W hs)
  generalize foldS k = F at *
  clear hrow hg
  go_enter Tryd.func112, Tryd.ntmps112
  go_wp2_with fail
  generalize w.alloc (.cells #[.string k, .string v] 63) = w0 at *
  · skip
    refine wp_region_held_drew (S := fun W => W.cell? ⟨w.heap.size, 0, none⟩ = some (.string k) ∧ W.cell? ⟨g, 0, none⟩ = some (.string K)) (by kernel_rfl) ⟨c0, c1⟩ (fun hHeld => ?_)
    replace c0 : w0.drew.cell? ⟨w.heap.size, 0, none⟩ = some (.string k) := c0
    replace c1 : w0.drew.cell? ⟨g, 0, none⟩ = some (.string K) := c1
    replace hb0 : Below w.heap.size w w0.drew := hb0.drew
    generalize w0.drew = wd at *
    refine wpAnyH_takeD (i := 0) (d := some 4) (v := ?v100) rfl rfl (by kernel_rfl) (by kernel_rfl) (by kernel_rfl) (fun _ _ _ h => h) (Or.inl ⟨by rfl, ?hy100⟩) hHeld ?rest100
    case hy100 =>
      intro wS hS
      go_simp
      all_goals with_reducible rfl
    (try simp only [Act.put, List.setIfInBounds_toArray, List.set_cons_zero, List.set_cons_succ])
    refine wpAnyH_takeD (i := 3) (d := some 7) (v := ?v101) rfl rfl (by kernel_rfl) (by kernel_rfl) (by kernel_rfl) (fun _ _ _ h => h) (Or.inl ⟨by rfl, ?hy101⟩) hHeld ?rest101
    case hy101 =>
      intro wS hS
      obtain ⟨e1, e2⟩ := hS
      go_simp
      all_goals with_reducible rfl
    (try simp only [Act.put, List.setIfInBounds_toArray, List.set_cons_zero, List.set_cons_succ])
    refine wpAnyH_takeD (i := 1) (d := some 5) (v := ?v102) rfl rfl (by kernel_rfl) (by kernel_rfl) (by kernel_rfl) (fun _ _ _ h => h) (Or.inl ⟨by rfl, ?hy102⟩) hHeld ?rest102
    case hy102 =>
      intro wS hS
      obtain ⟨e1, e2⟩ := hS
      go_simp
      all_goals with_reducible rfl
    (try simp only [Act.put, List.setIfInBounds_toArray, List.set_cons_zero, List.set_cons_succ])
    refine wpAnyH_ready (rs := [2]) (by kernel_rfl) (by simp) (AllReadyH.cons rfl (fun K hK => ?_) AllReadyH.nil)
    rw [if_pos (by rfl)]
    go_simp
    refine (hF.out wd).mono ?_
    rintro e w1 ⟨rfl, hb1⟩
    replace c0 := keep1 hb1 c0
    replace c1 := keep1 hb1 c1
    replace hb0 := hb0.trans (hb1.mono hb0.size)
    clear hb1
    go_wp2_with fail
    refine hK.out _ _ ⟨c0, c1⟩ (fun hHeld => ?_)
    clear hK K
    (try simp only [Act.put, List.setIfInBounds_toArray, List.set_cons_zero, List.set_cons_succ])
    have hq : (F.toList == K.toList) = R := by rw [hR, list_eql]
    clear hR
    refine wpAnyH_takeD (i := 4) (d := some 8) (v := ?v103) rfl rfl (by kernel_rfl) (by kernel_rfl) (by kernel_rfl) (fun _ _ _ h => h) (Or.inl ⟨by rfl, ?hy103⟩) hHeld ?rest103
    case hy103 =>
      intro wS hS
      go_simp
      all_goals with_reducible rfl
    (try simp only [Act.put, List.setIfInBounds_toArray, List.set_cons_zero, List.set_cons_succ])
    refine wpAnyH_takeD (i := 5) (d := some 3) (v := ?v104) rfl rfl (by kernel_rfl) (by kernel_rfl) (by kernel_rfl) (fun _ _ _ h => h) (Or.inl ⟨by rfl, ?hy104⟩) hHeld ?rest104
    case hy104 =>
      intro wS hS
      go_simp
      all_goals with_reducible rfl
    (try simp only [Act.put, List.setIfInBounds_toArray, List.set_cons_zero, List.set_cons_succ])
    refine wpAnyH_done (by kernel_rfl) ?_ _
    go_wp2_with fail
    go_ret
    exact ⟨rfl, hb0⟩
/-- where the first is that meets a test; -1: nowhere -/
def idxFrom (p : TagV → Bool) : List TagV → Int → Int
  | [], _ => -1
  | x :: l, i => if p x = true then i else idxFrom p l (i + 1)
theorem idxFrom_any (p : TagV → Bool) : ∀ (l : List TagV) (i : Int), 0 ≤ i → decide (0 ≤ idxFrom p l i) = l.any p
  | [], i, _ => rfl
  | x :: l, i, h => by
    unfold idxFrom
    cases hp : p x with
    | true => rw [if_pos rfl, List.any_cons, hp, decide_eq_true h]; rfl
    | false => rw [if_neg (by simp), List.any_cons, hp, idxFrom_any p l (i + 1) (by omega)]; rfl
set_option maxHeartbeats 1000000 in
theorem findT_any (f : FuncId) (P : Value) (p : TagV → Bool) (A : Option Addr) (c : Nat) (l : List TagV) (w : World) (hl : SeesT w A l) (hlen : l.length ≤ 9223372036854775807)
    (hf : ∀ (args : Array Value) (W : World), (callFunc f args).run Tryd.prog W = .ok (.enter f args) W)
    (hcl : ∀ (W : World) (x : TagV), x ∈ l → Below w.heap.size w W → Calls Tryd.prog f #[.agg #[.string x.k, .string x.v], P] W fun e w' => e = .returned (.bool (p x)) ∧ Below W.heap.size W w') :
    Calls Tryd.prog 110 #[.slice A l.length c, .func (.func f) #[] #[P]] w fun e w' => e = .returned (.int .i64 (idxFrom p l 0)) ∧ Below w.heap.size w w' := by
  obtain ⟨R, hR⟩ : ∃ R, R = idxFrom p l 0 := ⟨_, rfl⟩
  rw [← hR]
  have HR := hid hR
  clear hR
  go_enter Tryd.func110, Tryd.ntmps110
  go_wp2
  go_loopw [8] (fun i wr => ∃ k : Nat, k ≤ l.length ∧ i = .int .i64 (k : Int) ∧ Below w.heap.size w wr ∧ Hid (R = idxFrom p (l.drop k) (k : Int))) (fun i _ => l.length - (intOf i).toNat)
  case atStart => exact ⟨0, by omega, rfl, Below.refl _ _, hid HR.out⟩
  case round =>
    obtain ⟨k, hk, rfl, hb, hE⟩ := hrel
    by_cases hlt : k < l.length
    · have dk : decide ((k : Int) < (l.length : Int)) = true := decide_eq_true (by omega)
      have ck : (k : Int) < (l.length : Int) := by omega
      obtain ⟨a, rfl, hc, hc2⟩ := (hl.below hb).at hlt
      have HS := hid (show idxFrom p (l.drop k) (k : Int) = if p l[k] = true then (k : Int) else idxFrom p (l.drop (k + 1)) ((k + 1 : Nat) : Int) by rw [List.drop_eq_getElem_cons hlt]; rfl)
      have hcall := hcl wr l[k] (List.getElem_mem hlt) hb
      generalize l[k] = x at *
      cases hp : p x with
      | true =>
        rw [hp] at hcall
        obtain rfl : R = (k : Int) := by rw [hE.out, HS.out, if_pos hp]
        clear HR
        go_wp2_with fail
        refine hcall.mono ?_
        rintro e w1 ⟨rfl, hb1⟩
        clear hcall
        go_wp2_with fail
        go_ret
        exact ⟨rfl, hb.trans (hb1.mono hb.size)⟩
      | false =>
        rw [hp] at hcall
        go_wp2_with fail
        refine hcall.mono ?_
        rintro e w1 ⟨rfl, hb1⟩
        clear hcall
        go_wp2_with fail
        go_roundw
        case rel => exact ⟨k + 1, by omega, by go_num, hb.trans (hb1.mono hb.size), hid (by rw [hE.out, HS.out, hp]; rfl)⟩
        case measure => simp [intOf]; omega
    · obtain rfl : k = l.length := by omega
      have dk : decide ((l.length : Int) < (l.length : Int)) = false := decide_eq_false (by omega)
      obtain rfl : R = -1 := by rw [hE.out, List.drop_length]; rfl
      clear HR
      go_wp2_with fail
      go_ret
      exact ⟨rfl, hb⟩
set_option maxHeartbeats 1000000 in
theorem hasT_any (f : FuncId) (P : Value) (p : TagV → Bool) (A : Option Addr) (c : Nat) (l : List TagV) (w : World) (hl : SeesT w A l) (hlen : l.length ≤ 9223372036854775807)
    (hf : ∀ (args : Array Value) (W : World), (callFunc f args).run Tryd.prog W = .ok (.enter f args) W)
    (hcl : ∀ (W : World) (x : TagV), x ∈ l → Below w.heap.size w W → Calls Tryd.prog f #[.agg #[.string x.k, .string x.v], P] W fun e w' => e = .returned (.bool (p x)) ∧ Below W.heap.size W w') :
    Calls Tryd.prog 95 #[.slice A l.length c, .func (.func f) #[] #[P]] w fun e w' => e = .returned (.bool (l.any p)) ∧ Below w.heap.size w w' := by
  have h := findT_any f P p A c l w hl hlen hf hcl
  have hr := idxFrom_any p l 0 (by omega)
  generalize idxFrom p l 0 = r at *
  generalize l.any p = b at *
  clear hcl
  go_enter Tryd.func95, Tryd.ntmps95
  go_wp2_with fail
  refine h.mono ?_
  rintro e w1 ⟨rfl, hb⟩
  clear h
  go_wp2_with fail
  go_ret
  exact ⟨rfl, hb⟩
/-- by a key's closure -/
theorem findLike_any (g : Nat) (K : ByteArray) (A : Option Addr) (c : Nat) (l : List TagV) (w : World) (hg : w.cell? ⟨g, 0, none⟩ = some (.string K)) (hl : SeesT w A l) (hlen : l.length ≤ 9223372036854775807) (hs : ∀ x ∈ l, x.k.size ≤ 140737488355328) :
    Calls Tryd.prog 110 #[.slice A l.length c, .func (.func 112) #[] #[.pointer (some ⟨g, 0, none⟩)]] w fun e w' => e = .returned (.int .i64 (idxFrom (alike K) l 0)) ∧ Below w.heap.size w w' :=
  findT_any _ _ (alike K) A c l w hl hlen like_enter (fun W x hx hW => like1_any g K x W (keep1 hW hg) (hs x hx))
theorem hasLike_any (g : Nat) (K : ByteArray) (A : Option Addr) (c : Nat) (l : List TagV) (w : World) (hg : w.cell? ⟨g, 0, none⟩ = some (.string K)) (hl : SeesT w A l) (hlen : l.length ≤ 9223372036854775807) (hs : ∀ x ∈ l, x.k.size ≤ 140737488355328) :
    Calls Tryd.prog 95 #[.slice A l.length c, .func (.func 112) #[] #[.pointer (some ⟨g, 0, none⟩)]] w fun e w' => e = .returned (.bool (l.any (alike K))) ∧ Below w.heap.size w w' :=
  hasT_any _ _ (alike K) A c l w hl hlen like_enter (fun W x hx hW => like1_any g K x W (keep1 hW hg) (hs x hx))
set_option maxHeartbeats 1000000 in
theorem rat_any (A : Option Addr) (c : Nat) (l : List TagV) (key : ByteArray) (w : World) (hl : SeesT w A l) (hlen : l.length ≤ 9223372036854775807) (hs : ∀ x ∈ l, x.k.size ≤ 140737488355328) (hk : key.size ≤ 140737488355328) :
    Calls Tryd.prog 51 #[.slice A l.length c, .string key] w fun e w' => e = .returned (.int .i64 (idxFrom (alike (foldS key)) l 0)) ∧ Below w.heap.size w w' := by
  obtain ⟨R, hR⟩ : ∃ R, R = idxFrom (alike (foldS key)) l 0 := ⟨_, rfl⟩
  rw [← hR]
  have HF := hid (fun W => rfold_any key W hk)
  have HG := hid (fun W x (hx : x ∈ l) => rfold_any x.k W (hs x hx))
  generalize foldS key = K at *
  have HR := hid hR
  clear hR hs
  go_enter Tryd.func51, Tryd.ntmps51
  go_wp2_with fail
  go_loopw [5] (fun i wr => ∃ k : Nat, k ≤ l.length ∧ i = .int .i64 (k : Int) ∧ Below w.heap.size w wr ∧ Hid (R = idxFrom (alike K) (l.drop k) (k : Int))) (fun i _ => l.length - (intOf i).toNat)
  case atStart => exact ⟨0, by omega, rfl, Below.refl _ _, hid HR.out⟩
  case round =>
    obtain ⟨k, hk', rfl, hb, hE⟩ := hrel
    by_cases hlt : k < l.length
    · have dk : decide ((k : Int) < (l.length : Int)) = true := decide_eq_true (by omega)
      have ck : (k : Int) < (l.length : Int) := by omega
      obtain ⟨a, rfl, hc, hc2⟩ := (hl.below hb).at hlt
      have HS := hid (show idxFrom (alike K) (l.drop k) (k : Int) = if alike K l[k] = true then (k : Int) else idxFrom (alike K) (l.drop (k + 1)) ((k + 1 : Nat) : Int) by rw [List.drop_eq_getElem_cons hlt]; rfl)
      have hcall := HG.out wr l[k] (List.getElem_mem hlt)
      have hal : alike K l[k] = decide (foldS l[k].k = K) := rfl
      rw [hal] at HS
      generalize foldS l[k].k = F at *
      generalize l[k] = x at *
      clear hal
      go_wp2_with fail
      refine hcall.mono ?_
      rintro e w1 ⟨rfl, hb1⟩
      clear hcall
      go_wp2_with fail
      refine (HF.out w1).mono ?_
      rintro e w2 ⟨rfl, hb2⟩
      have hb12 := hb1.trans (hb2.mono hb1.size)
      have dl := list_eql F K
      cases hq : (F.toList == K.toList) with
      | true =>
        rw [hq] at dl
        obtain rfl : R = (k : Int) := by rw [hE.out, HS.out, if_pos dl.symm]
        clear HR HS dl
        go_wp2_with fail
        go_ret
        exact ⟨rfl, hb.trans (hb12.mono hb.size)⟩
      | false =>
        rw [hq] at dl
        have HN := hid (show R = idxFrom (alike K) (l.drop (k + 1)) ((k + 1 : Nat) : Int) by rw [hE.out, HS.out, ← dl]; rfl)
        clear HS dl
        go_wp2_with fail
        exact ⟨⟨k + 1, by omega, by go_num, hb.trans (hb12.mono hb.size), HN⟩, by simp [intOf]; omega⟩
    · obtain rfl : k = l.length := by omega
      have dk : decide ((l.length : Int) < (l.length : Int)) = false := decide_eq_false (by omega)
      obtain rfl : R = -1 := by rw [hE.out, List.drop_length]; rfl
      clear HR
      go_wp2_with fail
      go_ret
      exact ⟨rfl, hb⟩
end Go.Proofs.YtkmhmehofipehaaDoor
/- Letters of a text: their widths. -/
namespace Go.Proofs.YtkmhmehofipehaaDoor
set_option linter.unusedVariables false
open Go.RowKit
def widL (s : ByteArray) (p : Nat) : Nat := (Utf8.decode s p).2
theorem widL_pos (s : ByteArray) (p : Nat) (h : p < s.size) : 1 ≤ widL s p := by
  unfold widL
  by_cases ha : (s[p]'h).toNat < 128
  · rw [decode_ascii s p h ha]; exact Nat.le_refl _
  · exact (decode_high s p h (by omega)).2
/-- a byte of a text; behind its end some number -/
def byL (s : ByteArray) (p : Nat) : Nat := (s.get! p).toNat
theorem byL_at (s : ByteArray) (p : Nat) (h : p < s.size) : byL s p = (s[p]'h).toNat := by
  unfold byL; rw [← get_at s p h]; rfl
def conL (s : ByteArray) (p : Nat) : Bool := decide (p < s.size) && (byL s p / 64 == 2)
def okR (r : Nat) : Bool := decide (r < 55296) || (decide (57344 ≤ r) && decide (r ≤ 1114111))
theorem valid_is (r : Nat) : Utf8.valid (r : Int) = okR r := by
  unfold Utf8.valid okR
  rw [Bool.eq_iff_iff]
  simp
  omega
def r2 (s : ByteArray) (p : Nat) : Nat := (byL s p % 32) * 64 + byL s (p + 1) % 64
def r3 (s : ByteArray) (p : Nat) : Nat := (byL s p % 16) * 4096 + (byL s (p + 1) % 64) * 64 + byL s (p + 2) % 64
def r4 (s : ByteArray) (p : Nat) : Nat := (byL s p % 8) * 262144 + (byL s (p + 1) % 64) * 4096 + (byL s (p + 2) % 64) * 64 + byL s (p + 3) % 64
theorem decode_is (s : ByteArray) (p : Nat) : Utf8.decode s p =
    if byL s p < 128 then (byL s p, 1) else if (byL s p / 32 == 6 && conL s (p + 1)) = true then (if 128 ≤ r2 s p then (r2 s p, 2) else (65533, 1))
    else if (byL s p / 16 == 14 && conL s (p + 1) && conL s (p + 2)) = true then (if (decide (2048 ≤ r3 s p) && okR (r3 s p)) = true then (r3 s p, 3) else (65533, 1))
    else if (byL s p / 8 == 30 && conL s (p + 1) && conL s (p + 2) && conL s (p + 3)) = true then (if (decide (65536 ≤ r4 s p) && okR (r4 s p)) = true then (r4 s p, 4) else (65533, 1)) else (65533, 1) := by
  unfold Utf8.decode r2 r3 r4 conL byL
  simp only [valid_is, Nat.add_zero, ge_iff_le, Utf8.runeError]
/-- how many bytes the letter at a place has by the document, and which it is; none: 0 -/
def letL (s : ByteArray) (p : Nat) : Nat × Nat :=
  if byL s p < 128 then (1, byL s p) else if (decide (194 ≤ byL s p) && decide (byL s p < 224) && conL s (p + 1)) = true then (2, r2 s p)
  else if (decide (224 ≤ byL s p) && decide (byL s p < 240) && conL s (p + 1) && conL s (p + 2) && (decide (2048 ≤ r3 s p) && okR (r3 s p))) = true then (3, r3 s p)
  else if (decide (240 ≤ byL s p) && decide (byL s p < 245) && conL s (p + 1) && conL s (p + 2) && conL s (p + 3) && (decide (65536 ≤ r4 s p) && okR (r4 s p))) = true then (4, r4 s p) else (0, 0)
theorem byL_lt (s : ByteArray) (p : Nat) : byL s p < 256 := (s.get! p).toNat_lt
/-- the width by the model is the width by the document; where there is no letter, one byte -/
theorem letL_wid (s : ByteArray) (p : Nat) : (if (letL s p).1 = 0 then 1 else (letL s p).1) = widL s p := by
  have h0 := byL_lt s p
  have h1 := byL_lt s (p + 1)
  have h2 := byL_lt s (p + 2)
  have h3 := byL_lt s (p + 3)
  have fin : ∀ (a : Nat × Nat) (b : Nat × Nat), letL s p = a → Utf8.decode s p = b → (if a.1 = 0 then 1 else a.1) = b.2 → (if (letL s p).1 = 0 then 1 else (letL s p).1) = widL s p := fun a b e1 e2 e3 => by
    unfold widL; rw [e1, e2, e3]
  by_cases a : byL s p < 128
  · exact fin (1, byL s p) (byL s p, 1) (by unfold letL; rw [if_pos a]) (by rw [decode_is, if_pos a]) rfl
  by_cases b : (byL s p / 32 == 6 && conL s (p + 1)) = true
  · have b' := b
    simp only [Bool.and_eq_true, beq_iff_eq] at b'
    obtain ⟨b1, b2⟩ := b'
    have b3 := b2
    unfold conL at b3
    simp only [Bool.and_eq_true, decide_eq_true_eq, beq_iff_eq] at b3
    by_cases c : 194 ≤ byL s p
    · exact fin (2, r2 s p) (r2 s p, 2) (by unfold letL; rw [if_neg a, if_pos (by simp only [b2, Bool.and_eq_true, decide_eq_true_eq, eq_self, and_true]; omega)]) (by rw [decode_is, if_neg a, if_pos b, if_pos (by unfold r2; omega)]) rfl
    · exact fin (0, 0) (65533, 1) (by
        unfold letL
        rw [if_neg a, if_neg (by simp only [Bool.and_eq_true, decide_eq_true_eq]; omega), if_neg (by simp only [Bool.and_eq_true, decide_eq_true_eq]; omega), if_neg (by simp only [Bool.and_eq_true, decide_eq_true_eq]; omega)])
        (by rw [decode_is, if_neg a, if_pos b, if_neg (by unfold r2; omega)]) rfl
  have hb : ¬ ((decide (194 ≤ byL s p) && decide (byL s p < 224) && conL s (p + 1)) = true) := by
    intro h
    simp only [Bool.and_eq_true, decide_eq_true_eq] at h
    exact b (by simp only [Bool.and_eq_true, beq_iff_eq]; exact ⟨by omega, h.2⟩)
  by_cases c : (byL s p / 16 == 14 && conL s (p + 1) && conL s (p + 2)) = true
  · have c' := c
    simp only [Bool.and_eq_true, beq_iff_eq] at c'
    obtain ⟨⟨c1, c2⟩, c3⟩ := c'
    by_cases d : (decide (2048 ≤ r3 s p) && okR (r3 s p)) = true
    · exact fin (3, r3 s p) (r3 s p, 3) (by
        unfold letL
        rw [if_neg a, if_neg hb, if_pos (by rw [d, c2, c3]; simp only [Bool.and_eq_true, decide_eq_true_eq, eq_self, and_true]; omega)])
        (by rw [decode_is, if_neg a, if_neg b, if_pos c, if_pos d]) rfl
    · exact fin (0, 0) (65533, 1) (by
        unfold letL
        rw [if_neg a, if_neg hb, if_neg (fun h => d (by rw [Bool.and_eq_true] at h; exact h.2)), if_neg (by simp only [Bool.and_eq_true, decide_eq_true_eq]; omega)])
        (by rw [decode_is, if_neg a, if_neg b, if_pos c, if_neg d]) rfl
  have hc : ¬ ((decide (224 ≤ byL s p) && decide (byL s p < 240) && conL s (p + 1) && conL s (p + 2) && (decide (2048 ≤ r3 s p) && okR (r3 s p))) = true) := by
    intro h
    simp only [Bool.and_eq_true, decide_eq_true_eq] at h
    exact c (by simp only [Bool.and_eq_true, beq_iff_eq]; exact ⟨⟨by omega, h.1.1.2⟩, h.1.2⟩)
  by_cases d : (byL s p / 8 == 30 && conL s (p + 1) && conL s (p + 2) && conL s (p + 3)) = true
  · have d' := d
    simp only [Bool.and_eq_true, beq_iff_eq] at d'
    obtain ⟨⟨⟨d1, d2⟩, d3⟩, d4⟩ := d'
    by_cases e : (decide (65536 ≤ r4 s p) && okR (r4 s p)) = true
    · have e' := e
      unfold okR r4 at e'
      simp only [Bool.and_eq_true, Bool.or_eq_true, decide_eq_true_eq] at e'
      exact fin (4, r4 s p) (r4 s p, 4) (by
        unfold letL
        rw [if_neg a, if_neg hb, if_neg hc, if_pos (by rw [e, d2, d3, d4]; simp only [Bool.and_eq_true, decide_eq_true_eq, eq_self, and_true]; omega)])
        (by rw [decode_is, if_neg a, if_neg b, if_neg c, if_pos d, if_pos e]) rfl
    · exact fin (0, 0) (65533, 1) (by
        unfold letL
        rw [if_neg a, if_neg hb, if_neg hc, if_neg (fun h => e (by rw [Bool.and_eq_true] at h; exact h.2))])
        (by rw [decode_is, if_neg a, if_neg b, if_neg c, if_pos d, if_neg e]) rfl
  · exact fin (0, 0) (65533, 1) (by
      unfold letL
      rw [if_neg a, if_neg hb, if_neg hc, if_neg (fun h => d (by
        simp only [Bool.and_eq_true, decide_eq_true_eq] at h
        simp only [Bool.and_eq_true, beq_iff_eq]
        exact ⟨⟨⟨by omega, h.1.1.1.2⟩, h.1.1.2⟩, h.1.2⟩))])
      (by rw [decode_is, if_neg a, if_neg b, if_neg c, if_neg d]) rfl
/-- a letter ends within its text -/
theorem widL_le (s : ByteArray) (p : Nat) (h : p < s.size) : p + widL s p ≤ s.size := by
  unfold widL
  rw [decode_is]
  unfold conL
  repeat' split
  all_goals simp_all
  all_goals omega
/-- the place behind so many letters, and how many there are -/
def posL (s : ByteArray) : Nat → Nat → Nat
  | 0, p => p
  | k + 1, p => if p < s.size then posL s k (p + widL s p) else p
def lenL (s : ByteArray) : Nat → Nat → Nat
  | 0, _ => 0
  | k + 1, p => if p < s.size then 1 + lenL s k (p + widL s p) else 0
theorem posL_le (s : ByteArray) : ∀ (k p : Nat), p ≤ s.size → posL s k p ≤ s.size
  | 0, p, h => h
  | k + 1, p, h => by
    unfold posL
    split
    · exact posL_le s k _ (widL_le s p ‹_›)
    · exact h
theorem posL_ge (s : ByteArray) : ∀ (k p : Nat), p ≤ posL s k p
  | 0, p => Nat.le_refl _
  | k + 1, p => by
    unfold posL
    split
    · have := posL_ge s k (p + widL s p); omega
    · exact Nat.le_refl _
theorem lenL_more (s : ByteArray) : ∀ (k m p : Nat), s.size ≤ p + k → k ≤ m → lenL s m p = lenL s k p
  | 0, m, p, h, _ => by
    cases m with
    | zero => rfl
    | succ m => unfold lenL; rw [if_neg (by omega)]
  | k + 1, m, p, h, hm => by
    cases m with
    | zero => omega
    | succ m =>
      unfold lenL
      by_cases hp : p < s.size
      · rw [if_pos hp, if_pos hp]
        have := widL_pos s p hp
        rw [lenL_more s k m _ (by omega) (by omega)]
      · rw [if_neg hp, if_neg hp]
end Go.Proofs.YtkmhmehofipehaaDoor
/- Letters of a text that was cut behind a letter. -/
namespace Go.Proofs.YtkmhmehofipehaaDoor
set_option linter.unusedVariables false
open Go.RowKit
def widB (b : Nat) (c1 c2 c3 g2 g3 g4 : Bool) : Nat :=
  if b < 128 then 1 else if (b / 32 == 6 && c1) = true then (if g2 = true then 2 else 1)
  else if (b / 16 == 14 && c1 && c2) = true then (if g3 = true then 3 else 1)
  else if (b / 8 == 30 && c1 && c2 && c3) = true then (if g4 = true then 4 else 1) else 1
theorem widL_is (s : ByteArray) (p : Nat) : widL s p = widB (byL s p) (conL s (p + 1)) (conL s (p + 2)) (conL s (p + 3)) (decide (128 ≤ r2 s p))
    (decide (2048 ≤ r3 s p) && okR (r3 s p)) (decide (65536 ≤ r4 s p) && okR (r4 s p)) := by
  unfold widL widB
  rw [decode_is]
  simp only [decide_eq_true_eq]
  repeat' split
  all_goals rfl
theorem widB_1 (b : Nat) (c2 c3 c2' c3' c1 g2 g3 g4 h2 h3 h4 : Bool) (h : widB b c1 c2 c3 g2 g3 g4 ≤ 1) : widB b false c2' c3' h2 h3 h4 = widB b c1 c2 c3 g2 g3 g4 := by
  have hp : 1 ≤ widB b c1 c2 c3 g2 g3 g4 := by
    unfold widB
    repeat' split
    all_goals omega
  have : widB b false c2' c3' h2 h3 h4 = 1 := by
    unfold widB
    simp
  omega
theorem widB_2 (b : Nat) (c1 c2 c3 c3' g2 g3 g4 h3 h4 : Bool) (h : widB b c1 c2 c3 g2 g3 g4 ≤ 2) : widB b c1 false c3' g2 h3 h4 = widB b c1 c2 c3 g2 g3 g4 := by
  revert h
  unfold widB
  cases c1 <;> cases c2 <;> cases c3 <;> cases g2 <;> cases g3 <;> cases g4 <;> simp <;> (repeat' split) <;> omega
theorem widB_3 (b : Nat) (c1 c2 c3 g2 g3 g4 h4 : Bool) (h : widB b c1 c2 c3 g2 g3 g4 ≤ 3) : widB b c1 c2 false g2 g3 h4 = widB b c1 c2 c3 g2 g3 g4 := by
  revert h
  unfold widB
  cases c1 <;> cases c2 <;> cases c3 <;> cases g2 <;> cases g3 <;> cases g4 <;> simp <;> (repeat' split) <;> omega
theorem byL_pre (s : ByteArray) (c q : Nat) (hc : c ≤ s.size) (h : q < c) : byL (s.extract 0 c) q = byL s q := by
  have h1 : q < (s.extract 0 c).size := by simp [ByteArray.size_extract]; omega
  rw [byL_at _ _ h1, byL_at s q (by omega)]
  simp [ByteArray.getElem_extract]
theorem conL_pre (s : ByteArray) (c q : Nat) (hc : c ≤ s.size) (h : q < c) : conL (s.extract 0 c) q = conL s q := by
  unfold conL
  rw [byL_pre s c q hc h]
  have : (s.extract 0 c).size = c := by simp [ByteArray.size_extract]; omega
  rw [this, decide_eq_true h, decide_eq_true (show q < s.size by omega)]
theorem conL_out (s : ByteArray) (c q : Nat) (hc : c ≤ s.size) (h : c ≤ q) : conL (s.extract 0 c) q = false := by
  unfold conL
  have : (s.extract 0 c).size = c := by simp [ByteArray.size_extract]; omega
  rw [this, decide_eq_false (show ¬ q < c by omega)]
  rfl
theorem widL_pre (s : ByteArray) (c p : Nat) (hc : c ≤ s.size) (h : p + widL s p ≤ c) (hp : p < c) : widL (s.extract 0 c) p = widL s p := by
  rw [widL_is (s.extract 0 c), byL_pre s c p hc hp]
  by_cases h1 : p + 1 < c
  · rw [conL_pre s c (p + 1) hc h1]
    have e2 : r2 (s.extract 0 c) p = r2 s p := by unfold r2; rw [byL_pre s c p hc hp, byL_pre s c (p + 1) hc h1]
    rw [e2]
    by_cases h2 : p + 2 < c
    · rw [conL_pre s c (p + 2) hc h2]
      have e3 : r3 (s.extract 0 c) p = r3 s p := by unfold r3; rw [byL_pre s c p hc hp, byL_pre s c (p + 1) hc h1, byL_pre s c (p + 2) hc h2]
      rw [e3]
      by_cases h3 : p + 3 < c
      · rw [conL_pre s c (p + 3) hc h3]
        have e4 : r4 (s.extract 0 c) p = r4 s p := by unfold r4; rw [byL_pre s c p hc hp, byL_pre s c (p + 1) hc h1, byL_pre s c (p + 2) hc h2, byL_pre s c (p + 3) hc h3]
        rw [e4, ← widL_is]
      · rw [conL_out s c (p + 3) hc (by omega)]
        rw [widL_is] at h ⊢
        exact widB_3 _ _ _ _ _ _ _ _ (by omega)
    · rw [conL_out s c (p + 2) hc (by omega)]
      rw [widL_is] at h ⊢
      exact widB_2 _ _ _ _ _ _ _ _ _ _ (by omega)
  · rw [conL_out s c (p + 1) hc (by omega)]
    rw [widL_is] at h ⊢
    exact widB_1 _ _ _ _ _ _ _ _ _ _ _ _ (by omega)
/-- the letters of a text that is cut behind so many letters -/
theorem lenL_pre (s : ByteArray) (c : Nat) (hc : c ≤ s.size) : ∀ (k m p : Nat), c = posL s k p → p ≤ s.size → c ≤ p + m → lenL (s.extract 0 c) m p = lenL s k p
  | 0, m, p, h, _, _ => by
    have hs : (s.extract 0 c).size = c := by simp [ByteArray.size_extract]; omega
    have : posL s 0 p = p := rfl
    cases m with
    | zero => rfl
    | succ m => unfold lenL; rw [if_neg (by omega)]
  | k + 1, m, p, h, hp, hm => by
    have hs : (s.extract 0 c).size = c := by simp [ByteArray.size_extract]; omega
    by_cases hlt : p < s.size
    · have h' : c = posL s k (p + widL s p) := by rw [h]; show (if p < s.size then _ else _) = _; rw [if_pos hlt]
      have hw := widL_le s p hlt
      have hw1 := widL_pos s p hlt
      have hge : p + widL s p ≤ c := by rw [h']; exact posL_ge s k _
      cases m with
      | zero => omega
      | succ m =>
        have e1 : lenL (s.extract 0 c) (m + 1) p = 1 + lenL (s.extract 0 c) m (p + widL (s.extract 0 c) p) := by
          show (if p < (s.extract 0 c).size then _ else _) = _
          rw [if_pos (by omega)]
        have e2 : lenL s (k + 1) p = 1 + lenL s k (p + widL s p) := by
          show (if p < s.size then _ else _) = _
          rw [if_pos hlt]
        rw [e1, e2, widL_pre s c p hc hge (by omega), lenL_pre s c hc k m (p + widL s p) h' hw (by omega)]
    · have h' : c = p := by rw [h]; show (if p < s.size then _ else _) = _; rw [if_neg hlt]
      have e2 : lenL s (k + 1) p = 0 := by
        show (if p < s.size then _ else _) = _
        rw [if_neg hlt]
      rw [e2]
      cases m with
      | zero => rfl
      | succ m => unfold lenL; rw [if_neg (by omega)]
end Go.Proofs.YtkmhmehofipehaaDoor
/- A text's letters, one by one: plain. -/
namespace Go.Proofs.YtkmhmehofipehaaDoor
set_option linter.unusedVariables false
open Go.RowKit
theorem lenL_step (s : ByteArray) (p : Nat) (h : p < s.size) : lenL s (s.size - p) p = 1 + lenL s (s.size - (p + widL s p)) (p + widL s p) := by
  have hw := widL_le s p h
  have h1 := widL_pos s p h
  obtain ⟨m, hm⟩ : ∃ m, s.size - p = m + 1 := ⟨s.size - p - 1, by omega⟩
  rw [hm]
  show (if p < s.size then 1 + lenL s m (p + widL s p) else 0) = _
  rw [if_pos h, lenL_more s (s.size - (p + widL s p)) m _ (by omega) (by omega)]
theorem lenL_end (s : ByteArray) (k p : Nat) (h : s.size ≤ p) : lenL s k p = 0 := by
  cases k with
  | zero => rfl
  | succ k => unfold lenL; rw [if_neg (by omega)]
theorem posL_end (s : ByteArray) (k p : Nat) (h : s.size ≤ p) : posL s k p = p := by
  cases k with
  | zero => rfl
  | succ k => unfold posL; rw [if_neg (by omega)]
theorem below_iter (w : World) (s : ByteArray) (p : Nat) : Below w.heap.size w (w.iter s p) := (Below.refl _ _).alloc (Nat.le_refl _) _
theorem lenL_le (s : ByteArray) : ∀ (k p : Nat), lenL s k p ≤ s.size - p
  | 0, p => by unfold lenL; omega
  | k + 1, p => by
    unfold lenL
    split
    · have := lenL_le s k (p + widL s p)
      have := widL_pos s p ‹_›
      omega
    · omega
end Go.Proofs.YtkmhmehofipehaaDoor
/- utf8.ValidString, laid at this program; what its two tables hold. -/
namespace Go.Proofs.YtkmhmehofipehaaDoor
set_option linter.unusedVariables false
open Go.RowKit Go.Shelf Go.Lib Go.Proofs
def validRen : Ren where
  f := fun x => match x with
    | 196 => 113
    | 259 => 116
    | n => n
  t := fun x => match x with
    | 9 => 9
    | 4 => 4
    | 3 => 3
    | 5 => 5
    | 12 => 12
    | 119 => 166
    | 0 => 0
    | 46 => 92
    | 139 => 169
    | 138 => 168
    | 53 => 170
    | n => n
  g := fun x => match x with
    | 3 => 0
    | 4 => 1
    | n => n
theorem laysValid : Lays.n196 Tryd.prog validRen where
  mixed := by kernel_rfl
  f196 := by kernel_rfl
  f259 := by kernel_rfl
  t0 := by kernel_rfl
  a0 := fun _ => by kernel_rfl
  z0 := fun _ => by kernel_rfl
  v0 := fun _ => by kernel_rfl
  t3 := by kernel_rfl
  a3 := fun _ => by kernel_rfl
  z3 := fun _ => by kernel_rfl
  v3 := fun _ => by kernel_rfl
  t4 := by kernel_rfl
  a4 := fun _ => by kernel_rfl
  z4 := fun _ => by kernel_rfl
  v4 := fun _ => by kernel_rfl
  t5 := by kernel_rfl
  a5 := fun _ => by kernel_rfl
  z5 := fun _ => by kernel_rfl
  v5 := fun _ => by kernel_rfl
  t9 := by kernel_rfl
  a9 := fun _ => by kernel_rfl
  z9 := fun _ => by kernel_rfl
  v9 := fun _ => by kernel_rfl
  t12 := by kernel_rfl
  a12 := fun _ => by kernel_rfl
  z12 := fun _ => by kernel_rfl
  v12 := fun _ => by kernel_rfl
  t46 := by kernel_rfl
  a46 := fun _ => by kernel_rfl
  z46 := fun _ => by kernel_rfl
  v46 := fun _ => by kernel_rfl
  t53 := by kernel_rfl
  a53 := fun _ => by kernel_rfl
  z53 := fun _ => by kernel_rfl
  v53 := fun _ => by kernel_rfl
  t119 := by kernel_rfl
  a119 := fun _ => by kernel_rfl
  z119 := fun _ => by kernel_rfl
  t138 := by kernel_rfl
  a138 := fun _ => by kernel_rfl
  z138 := fun _ => by kernel_rfl
  v138 := fun _ => by kernel_rfl
  t139 := by kernel_rfl
  a139 := fun _ => by kernel_rfl
  z139 := fun _ => by kernel_rfl
  v139 := fun _ => by kernel_rfl
  g3 := by kernel_rfl
  g4 := by kernel_rfl
/-- the two tables as their initialisers lay them -/
def Tabs (w : World) : Prop := Lib.Utf8Tabs (validRen.g 3) (validRen.g 4) w
theorem Tabs.below {w w' : World} (h : Tabs w) (hb : Below w.heap.size w w') : Tabs w' := Utf8Tabs_below h hb
theorem valid_any (s : ByteArray) (w : World) (hs : s.size ≤ 9223372036854775807) (hT : Tabs w) :
    Calls Tryd.prog 113 #[.string s] w fun e w' => e = .returned (.bool (Lib.validD s.data.toList)) ∧ Below w.heap.size w w' :=
  Any.utf8_ValidString laysValid s w hs hT
theorem extra : U8Extra Tryd.prog validRen := ⟨by kernel_rfl, by kernel_rfl, by kernel_rfl, by kernel_rfl, by kernel_rfl, by kernel_rfl, by kernel_rfl⟩
end Go.Proofs.YtkmhmehofipehaaDoor
/- What a letter is: the decoder's step and the document's; keys and values, plain. -/
namespace Go.Proofs.YtkmhmehofipehaaDoor
set_option linter.unusedVariables false
open Go.RowKit
/-- the decoder's step is the document's letter; where there is none: (U+FFFD, 1) -/
theorem dec_let (s : ByteArray) (p : Nat) : Utf8.decode s p = if (letL s p).1 = 0 then (65533, 1) else ((letL s p).2, (letL s p).1) := by
  have h0 := byL_lt s p
  have h1 := byL_lt s (p + 1)
  have h2 := byL_lt s (p + 2)
  have h3 := byL_lt s (p + 3)
  have fin : ∀ (a : Nat × Nat) (b : Nat × Nat), letL s p = a → Utf8.decode s p = b → (b = if a.1 = 0 then (65533, 1) else (a.2, a.1)) → Utf8.decode s p = if (letL s p).1 = 0 then (65533, 1) else ((letL s p).2, (letL s p).1) := fun a b e1 e2 e3 => by
    rw [e1, e2, e3]
  by_cases a : byL s p < 128
  · exact fin (1, byL s p) (byL s p, 1) (by unfold letL; rw [if_pos a]) (by rw [decode_is, if_pos a]) rfl
  by_cases b : (byL s p / 32 == 6 && conL s (p + 1)) = true
  · have b' := b
    simp only [Bool.and_eq_true, beq_iff_eq] at b'
    obtain ⟨b1, b2⟩ := b'
    have b3 := b2
    unfold conL at b3
    simp only [Bool.and_eq_true, decide_eq_true_eq, beq_iff_eq] at b3
    by_cases c : 194 ≤ byL s p
    · exact fin (2, r2 s p) (r2 s p, 2) (by unfold letL; rw [if_neg a, if_pos (by simp only [b2, Bool.and_eq_true, decide_eq_true_eq, eq_self, and_true]; omega)]) (by rw [decode_is, if_neg a, if_pos b, if_pos (by unfold r2; omega)]) rfl
    · exact fin (0, 0) (65533, 1) (by
        unfold letL
        rw [if_neg a, if_neg (by simp only [Bool.and_eq_true, decide_eq_true_eq]; omega), if_neg (by simp only [Bool.and_eq_true, decide_eq_true_eq]; omega), if_neg (by simp only [Bool.and_eq_true, decide_eq_true_eq]; omega)])
        (by rw [decode_is, if_neg a, if_pos b, if_neg (by unfold r2; omega)]) rfl
  have hb : ¬ ((decide (194 ≤ byL s p) && decide (byL s p < 224) && conL s (p + 1)) = true) := by
    intro h
    simp only [Bool.and_eq_true, decide_eq_true_eq] at h
    exact b (by simp only [Bool.and_eq_true, beq_iff_eq]; exact ⟨by omega, h.2⟩)
  by_cases c : (byL s p / 16 == 14 && conL s (p + 1) && conL s (p + 2)) = true
  · have c' := c
    simp only [Bool.and_eq_true, beq_iff_eq] at c'
    obtain ⟨⟨c1, c2⟩, c3⟩ := c'
    by_cases d : (decide (2048 ≤ r3 s p) && okR (r3 s p)) = true
    · exact fin (3, r3 s p) (r3 s p, 3) (by
        unfold letL
        rw [if_neg a, if_neg hb, if_pos (by rw [d, c2, c3]; simp only [Bool.and_eq_true, decide_eq_true_eq, eq_self, and_true]; omega)])
        (by rw [decode_is, if_neg a, if_neg b, if_pos c, if_pos d]) rfl
    · exact fin (0, 0) (65533, 1) (by
        unfold letL
        rw [if_neg a, if_neg hb, if_neg (fun h => d (by rw [Bool.and_eq_true] at h; exact h.2)), if_neg (by simp only [Bool.and_eq_true, decide_eq_true_eq]; omega)])
        (by rw [decode_is, if_neg a, if_neg b, if_pos c, if_neg d]) rfl
  have hc : ¬ ((decide (224 ≤ byL s p) && decide (byL s p < 240) && conL s (p + 1) && conL s (p + 2) && (decide (2048 ≤ r3 s p) && okR (r3 s p))) = true) := by
    intro h
    simp only [Bool.and_eq_true, decide_eq_true_eq] at h
    exact c (by simp only [Bool.and_eq_true, beq_iff_eq]; exact ⟨⟨by omega, h.1.1.2⟩, h.1.2⟩)
  by_cases d : (byL s p / 8 == 30 && conL s (p + 1) && conL s (p + 2) && conL s (p + 3)) = true
  · have d' := d
    simp only [Bool.and_eq_true, beq_iff_eq] at d'
    obtain ⟨⟨⟨d1, d2⟩, d3⟩, d4⟩ := d'
    by_cases e : (decide (65536 ≤ r4 s p) && okR (r4 s p)) = true
    · have e' := e
      unfold okR r4 at e'
      simp only [Bool.and_eq_true, Bool.or_eq_true, decide_eq_true_eq] at e'
      exact fin (4, r4 s p) (r4 s p, 4) (by
        unfold letL
        rw [if_neg a, if_neg hb, if_neg hc, if_pos (by rw [e, d2, d3, d4]; simp only [Bool.and_eq_true, decide_eq_true_eq, eq_self, and_true]; omega)])
        (by rw [decode_is, if_neg a, if_neg b, if_neg c, if_pos d, if_pos e]) rfl
    · exact fin (0, 0) (65533, 1) (by
        unfold letL
        rw [if_neg a, if_neg hb, if_neg hc, if_neg (fun h => e (by rw [Bool.and_eq_true] at h; exact h.2))])
        (by rw [decode_is, if_neg a, if_neg b, if_neg c, if_pos d, if_neg e]) rfl
  · exact fin (0, 0) (65533, 1) (by
      unfold letL
      rw [if_neg a, if_neg hb, if_neg hc, if_neg (fun h => d (by
        simp only [Bool.and_eq_true, decide_eq_true_eq] at h
        simp only [Bool.and_eq_true, beq_iff_eq]
        exact ⟨⟨⟨by omega, h.1.1.1.2⟩, h.1.1.2⟩, h.1.2⟩))])
      (by rw [decode_is, if_neg a, if_neg b, if_neg c, if_neg d]) rfl
/-- the letter at a place, as a number -/
def runL (s : ByteArray) (p : Nat) : Nat := (Utf8.decode s p).1
theorem runL_low (s : ByteArray) (p : Nat) (h : byL s p < 128) : runL s p = byL s p ∧ widL s p = 1 := by
  unfold runL widL
  rw [decode_is, if_pos h]
  exact ⟨rfl, rfl⟩
theorem runL_high (s : ByteArray) (p : Nat) (h : ¬ byL s p < 128) : 128 ≤ runL s p := by
  unfold runL
  rw [decode_is, if_neg h]
  split
  · split
    · assumption
    · decide
  · split
    · split
      · rename_i h3
        simp only [Bool.and_eq_true, decide_eq_true_eq] at h3
        have := h3.1
        show 128 ≤ r3 s p
        omega
      · decide
    · split
      · split
        · rename_i h4
          simp only [Bool.and_eq_true, decide_eq_true_eq] at h4
          have := h4.1
          show 128 ≤ r4 s p
          omega
        · decide
      · decide
/-- is a byte one of a key? -/
def keyN (b : Nat) : Bool := !(decide (b < 32) || decide (125 < b) || decide (b = 61))
/-- from a place on, are all bytes those of a key? -/
def keyFrom (s : ByteArray) : Nat → Nat → Bool
  | 0, _ => true
  | k + 1, p => if p < s.size then keyN (byL s p) && keyFrom s k (p + 1) else true
def keyB (s : ByteArray) : Bool := keyFrom s s.size 0 && (decide (1 ≤ s.size) && decide (s.size ≤ 32))
theorem keyFrom_step (s : ByteArray) (k p : Nat) (h : p < s.size) : keyFrom s (k + 1) p = (keyN (byL s p) && keyFrom s k (p + 1)) := by
  show (if p < s.size then _ else _) = _
  rw [if_pos h]
theorem keyFrom_end (s : ByteArray) (k p : Nat) (h : ¬ p < s.size) : keyFrom s k p = true := by
  cases k with
  | zero => rfl
  | succ k => show (if p < s.size then _ else _) = _; rw [if_neg h]
/-- from a place on, are all letters those of a value? by the document -/
def valFrom (s : ByteArray) : Nat → Nat → Bool
  | 0, _ => true
  | k + 1, p => if p < s.size then (if (letL s p).1 = 0 ∨ (letL s p).2 < 32 then false else valFrom s k (p + (letL s p).1)) else true
def valB (s : ByteArray) : Bool := decide (s.size ≤ 1024) && valFrom s s.size 0
/-- .. by the decoder: no letter below 32 -/
def runFrom (s : ByteArray) : Nat → Nat → Bool
  | 0, _ => true
  | k + 1, p => if p < s.size then (if runL s p < 32 then false else runFrom s k (p + widL s p)) else true
theorem valFrom_end (s : ByteArray) (k p : Nat) (h : ¬ p < s.size) : valFrom s k p = true := by
  cases k with
  | zero => rfl
  | succ k => show (if p < s.size then _ else _) = _; rw [if_neg h]
theorem runFrom_end (s : ByteArray) (k p : Nat) (h : ¬ p < s.size) : runFrom s k p = true := by
  cases k with
  | zero => rfl
  | succ k => show (if p < s.size then _ else _) = _; rw [if_neg h]
theorem valFrom_step (s : ByteArray) (k p : Nat) (h : p < s.size) : valFrom s (k + 1) p = if (letL s p).1 = 0 ∨ (letL s p).2 < 32 then false else valFrom s k (p + (letL s p).1) := by
  show (if p < s.size then _ else _) = _
  rw [if_pos h]
theorem runFrom_step (s : ByteArray) (k p : Nat) (h : p < s.size) : runFrom s (k + 1) p = if runL s p < 32 then false else runFrom s k (p + widL s p) := by
  show (if p < s.size then _ else _) = _
  rw [if_pos h]
theorem runFrom_more (s : ByteArray) : ∀ (k m p : Nat), s.size ≤ p + k → k ≤ m → runFrom s m p = runFrom s k p
  | 0, m, p, h, _ => by rw [runFrom_end s m p (by omega), runFrom_end s 0 p (by omega)]
  | k + 1, m, p, h, hm => by
    obtain ⟨m, rfl⟩ : ∃ j, m = j + 1 := ⟨m - 1, by omega⟩
    by_cases hp : p < s.size
    · rw [runFrom_step s m p hp, runFrom_step s k p hp]
      have := widL_pos s p hp
      rw [runFrom_more s k m _ (by omega) (by omega)]
    · rw [runFrom_end s _ p hp, runFrom_end s _ p hp]
theorem letL_one (s : ByteArray) (p : Nat) (h : (letL s p).1 = 1) : (letL s p).2 < 128 := by
  unfold letL at h ⊢
  split
  · assumption
  · rename_i h0
    rw [if_neg h0] at h
    split at h
    · simp at h
    · split at h
      · simp at h
      · split at h
        · simp at h
        · simp at h
/-- both readings of a value are one -/
theorem val_eq (s : ByteArray) : ∀ (k p : Nat), s.size ≤ p + k → valFrom s k p = (Lib.validD (s.data.toList.drop p) && runFrom s k p)
  | 0, p, h => by
    rw [valFrom_end s 0 p (by omega), runFrom_end s 0 p (by omega)]
    have hn : s.data.toList.drop p = [] := List.drop_eq_nil_of_le (by rw [Array.length_toList]; exact h)
    rw [hn]
    rfl
  | k + 1, p, h => by
    by_cases hp : p < s.size
    · have hne : s.data.toList.drop p ≠ [] := by
        intro hn
        have := List.drop_eq_nil_iff.1 hn
        rw [Array.length_toList] at this
        have : s.size ≤ p := this
        omega
      rw [valFrom_step s k p hp, runFrom_step s k p hp, Lib.validD_step _ hne, Lib.decodeL_drop]
      unfold runL widL
      rw [dec_let]
      by_cases h0 : (letL s p).1 = 0
      · rw [if_pos (.inl h0), if_pos h0]
        simp
      · rw [if_neg h0]
        have hw : 1 ≤ (letL s p).1 := by omega
        have hno : ¬ ((letL s p).2 = 65533 ∧ (letL s p).1 = 1) := by
          rintro ⟨e1, e2⟩
          have hd := dec_let s p
          rw [if_neg h0, e1, e2] at hd
          have hl := letL_one s p e2
          rw [e1] at hl
          omega
        dsimp only
        rw [if_neg hno]
        by_cases hs : (letL s p).2 < 32
        · rw [if_pos (.inr hs), if_pos hs]; simp
        · rw [if_neg (by omega), if_neg hs, List.drop_drop]
          exact val_eq s k _ (by omega)
    · have hn : s.data.toList.drop p = [] := List.drop_eq_nil_of_le (by rw [Array.length_toList]; exact Nat.le_of_not_lt hp)
      rw [valFrom_end s _ p hp, runFrom_end s _ p hp, hn]
      rfl
end Go.Proofs.YtkmhmehofipehaaDoor
