/- Sound cut: the program's. -/
import Derived.Test.YtfinefhebffpcaaPcmCat
import Derived.Test.YtfinefhebffpcaaPcmApart
import Derived.Test.YtfinefhebffpcaaPcmPart
import Derived.Test.YtfinefhebffpcaaRegRow
import Derived.BigQuiet
namespace Go.Proofs.Ytfinefhebffpcaa
set_option linter.unusedVariables false
open Go.RowKit
theorem enterC (args : Array Value) (W : World) : (callFunc 47 args).run Try.prog W = .ok (.enter 47 args) W := by go_simp
/-- a part of a list -/
def partL (l : List Int) (F T : Nat) : List Int := (l.drop F).take (T - F)
def cutL (L : List Chan) (F T k : Nat) : List Int := partL ((ints L).getD k []) F T
theorem cutL_at (L : List Chan) (F T k : Nat) (h : k < L.length) : cutL L F T k = partL L[k].l F T := by simp [cutL, ints, List.getD, h]
theorem partL_len (l : List Int) (F T : Nat) (h1 : F ≤ T) (h2 : T ≤ l.length) : (partL l F T).length = T - F := by
  unfold partL
  rw [List.length_take, List.length_drop]
  omega
def cutA (A : Option Addr) (c F : Nat) : Option Addr := if c = F then A else A.map (·.add F)
theorem cut_slice (A : Option Addr) (n c F T : Nat) (h1 : F ≤ T) (h2 : T ≤ c) (w : World) : (Instr.sliceAt 34 (.slice A n c) (some (.int .i64 (F : Int))) (some (.int .i64 (T : Int))) none).run Try.prog w = .ok (.slice (cutA A c F) (T - F) (c - F)) w := by
  have d1 : (F : Int) ≤ (T : Int) := by omega
  have d2 : (T : Int) ≤ (c : Int) := by omega
  have d0 : (0 : Int) ≤ (F : Int) := by omega
  unfold cutA
  go_simp
theorem addr_add_add (a : Addr) (i j : Nat) : (a.add i).add j = a.add (i + j) := by
  unfold Addr.add
  repeat' split
  all_goals first | rfl | omega | (simp_all; done) | (simp_all; omega)
theorem sees_cut {w : World} {A : Option Addr} {l : List Int} (h : SeesI w A l) (c F T : Nat) (h1 : F ≤ T) (h2 : T ≤ l.length) (hc : l.length ≤ c) : SeesI w (cutA A c F) (partL l F T) := by
  intro i v hv
  have hi : i < T - F := by
    have := (List.getElem?_eq_some_iff.1 hv).1
    rw [List.length_map, partL_len l F T h1 h2] at this
    exact this
  have hv2 : (l.map intV)[F + i]? = some v := by
    rw [← hv, List.getElem?_map, List.getElem?_map]
    unfold partL
    rw [List.getElem?_take, if_pos hi, List.getElem?_drop]
  obtain ⟨a, rfl, hcell⟩ := h (F + i) v hv2
  refine ⟨a.add F, ?_, ?_⟩
  · unfold cutA
    rw [if_neg (by omega)]
    rfl
  · rw [← hcell]
    congr 1
    exact addr_add_add a F i
theorem run_sliceop {P : Program} {o : Oper} {a : Act} {w : World} (t : TypeId) (x lo hi : Operand) (ho : o.op = .slice t x (some lo) (some hi) none) (xv lv hv v : Value) (hx : a.eval x = xv) (hl : a.eval lo = lv) (hh : a.eval hi = hv)
    (hr : (Instr.sliceAt t xv (some lv) (some hv) none).run P w = .ok v w) : (execOp a.eval o).run P w = .ok (.value v) w := by
  unfold execOp
  simp only [ho, hx, hl, hh, Option.map, Sem.run_bind, Sem.run_pure, Result.andThen_ok, hr]
set_option maxRecDepth 20000 in
set_option maxHeartbeats 4000000 in
theorem cut1_any (g2 g3 g4 : Nat) (A : Option Addr) (c : Nat) (L : List Chan) (F T k : Nat) (w : World) (h2 : w.cell? ⟨g2, 3, none⟩ = some (.slice A L.length c)) (h3 : w.cell? ⟨g3, 0, none⟩ = some (.int .i64 (F : Int))) (h4 : w.cell? ⟨g4, 0, none⟩ = some (.int .i64 (T : Int))) (hl : SeesL w A L) (hk : k < L.length)
    (hFT : F ≤ T) (hL : ∀ x ∈ L, T ≤ x.l.length ∧ x.l.length ≤ x.c ∧ x.l.length ≤ 4294967295) :
    Calls Try.prog 47 (#[.int .i64 (k : Int)] ++ #[.pointer (some ⟨g2, 0, none⟩), .pointer (some ⟨g3, 0, none⟩), .pointer (some ⟨g4, 0, none⟩)]) w fun e w' => ∃ x : Chan, e = .returned x.v ∧ x.l = cutL L F T k ∧ w'.ownsRow w.heap.size 3 1 x.v x.l.length (x.l.map intV) ∧ Below w.heap.size w w' := by
  change Calls Try.prog 47 #[.int .i64 (k : Int), .pointer (some ⟨g2, 0, none⟩), .pointer (some ⟨g3, 0, none⟩), .pointer (some ⟨g4, 0, none⟩)] w _
  have HCUT := hid (cutL_at L F T k hk)
  obtain ⟨a, rfl, hx⟩ := hl.at hk
  have hxs := (hl.2 L[k] (List.getElem_mem hk)).1
  obtain ⟨hxn, hxc, hxm⟩ := hL L[k] (List.getElem_mem hk)
  generalize cutL L F T k = out at *
  generalize L[k] = x at *
  obtain ⟨xA, xc, xl⟩ := x
  simp only [Chan.v] at *
  have ck : (k : Int) < (L.length : Int) := by omega
  have hsl := hid (fun W => cut_slice xA xl.length xc F T hFT (by omega) W)
  have hpl := hid (partL_len xl F T hFT hxn)
  replace hxs := sees_cut hxs xc F T hFT hxn hxc
  have hlen : (partL xl F T).length ≤ 8796093022208 := by rw [hpl.out]; omega
  clear hl hL hk hFT hxn hxc hxm
  generalize L.length = n at *
  have HF : ∀ (A9 : Option Addr) (c9 : Nat) (w8 : World), w8.ownsRow w.heap.size 3 1 (.slice A9 (partL xl F T).length c9) (partL xl F T).length ((partL xl F T).map intV) → Below w.heap.size w w8 → ∃ x : Chan, (Ending.returned (.slice A9 (partL xl F T).length c9)) = .returned (.slice x.A x.l.length x.c) ∧ x.l = out ∧ w8.ownsRow w.heap.size 3 1 (.slice x.A x.l.length x.c) x.l.length (x.l.map intV) ∧ Below w.heap.size w w8 :=
    fun A9 c9 w8 ho hb => ⟨⟨A9, c9, partL xl F T⟩, rfl, HCUT.out.symm, ho, hb⟩
  replace HF := hid HF
  clear HCUT
  generalize partL xl F T = pl at *
  rw [← hpl.out] at hsl
  clear hpl
  generalize cutA xA xc F = yA at *
  generalize xc - F = yc at *
  go_enter Try.func47, Try.ntmps47
  go_wp2_with fail
  · skip
    refine wp_region_held_drew (S := fun w' => w'.cell? ⟨g2, 3, none⟩ = some (.slice (some a) n c) ∧ w'.cell? ⟨g3, 0, none⟩ = some (.int .i64 (F : Int)) ∧ w'.cell? ⟨g4, 0, none⟩ = some (.int .i64 (T : Int)) ∧ w'.cell? (a.add k) = some (.slice xA xl.length xc)) (by kernel_rfl) ⟨h2, h3, h4, hx⟩ (fun hHeld => ?_)
    replace hxs : SeesI w.drew yA pl := hxs
    replace h2 : w.drew.cell? ⟨g2, 3, none⟩ = some (.slice (some a) n c) := h2
    replace h3 : w.drew.cell? ⟨g3, 0, none⟩ = some (.int .i64 (F : Int)) := h3
    replace h4 : w.drew.cell? ⟨g4, 0, none⟩ = some (.int .i64 (T : Int)) := h4
    replace hx : w.drew.cell? (a.add k) = some (.slice xA xl.length xc) := hx
    have hbW : Below w.heap.size w w.drew := (Below.refl _ w).drew
    generalize w.drew = wd at *
    refine wpAnyH_takeD (i := 0) (d := some 6) (v := ?v100) rfl rfl (by kernel_rfl) (by kernel_rfl) (by kernel_rfl) (fun _ _ _ h => h) (Or.inl ⟨by rfl, ?hy100⟩) hHeld ?rest100
    case hy100 =>
      intro wS hS
      go_simp
      all_goals with_reducible rfl
    (try simp only [Act.put, List.setIfInBounds_toArray, List.set_cons_zero, List.set_cons_succ])
    refine wpAnyH_takeD (i := 2) (d := some 8) (v := ?v101) rfl rfl (by kernel_rfl) (by kernel_rfl) (by kernel_rfl) (fun _ _ _ h => h) (Or.inl ⟨by rfl, ?hy101⟩) hHeld ?rest101
    case hy101 =>
      intro wS hS
      go_simp
      all_goals with_reducible rfl
    (try simp only [Act.put, List.setIfInBounds_toArray, List.set_cons_zero, List.set_cons_succ])
    refine wpAnyH_takeD (i := 5) (d := some 11) (v := ?v102) rfl rfl (by kernel_rfl) (by kernel_rfl) (by kernel_rfl) (fun _ _ _ h => h) (Or.inl ⟨by rfl, ?hy102⟩) hHeld ?rest102
    case hy102 =>
      intro wS hS
      obtain ⟨e1, e2, e3, e4⟩ := hS
      go_simp
      all_goals with_reducible rfl
    (try simp only [Act.put, List.setIfInBounds_toArray, List.set_cons_zero, List.set_cons_succ])
    refine wpAnyH_takeD (i := 6) (d := some 12) (v := ?v103) rfl rfl (by kernel_rfl) (by kernel_rfl) (by kernel_rfl) (fun _ _ _ h => h) (Or.inl ⟨by rfl, ?hy103⟩) hHeld ?rest103
    case hy103 =>
      intro wS hS
      obtain ⟨e1, e2, e3, e4⟩ := hS
      go_simp
      all_goals with_reducible rfl
    (try simp only [Act.put, List.setIfInBounds_toArray, List.set_cons_zero, List.set_cons_succ])
    refine wpAnyH_takeD (i := 1) (d := some 7) (v := ?v104) rfl rfl (by kernel_rfl) (by kernel_rfl) (by kernel_rfl) (fun _ _ _ h => h) (Or.inl ⟨by rfl, ?hy104⟩) hHeld ?rest104
    case hy104 =>
      intro wS hS
      obtain ⟨e1, e2, e3, e4⟩ := hS
      go_simp
      all_goals with_reducible rfl
    (try simp only [Act.put, List.setIfInBounds_toArray, List.set_cons_zero, List.set_cons_succ])
    refine wpAnyH_takeD (i := 3) (d := some 9) (v := ?v105) rfl rfl (by kernel_rfl) (by kernel_rfl) (by kernel_rfl) (fun _ _ _ h => h) (Or.inl ⟨by rfl, ?hy105⟩) hHeld ?rest105
    case hy105 =>
      intro wS hS
      go_simp
      all_goals with_reducible rfl
    (try simp only [Act.put, List.setIfInBounds_toArray, List.set_cons_zero, List.set_cons_succ])
    refine wpAnyH_takeD (i := 4) (d := some 10) (v := ?v106) rfl rfl (by kernel_rfl) (by kernel_rfl) (by kernel_rfl) (fun _ _ _ h => h) (Or.inl ⟨by rfl, ?hy106⟩) hHeld ?rest106
    case hy106 =>
      intro wS hS
      obtain ⟨e1, e2, e3, e4⟩ := hS
      go_simp
      all_goals with_reducible rfl
    (try simp only [Act.put, List.setIfInBounds_toArray, List.set_cons_zero, List.set_cons_succ])
    refine wpAnyH_takeD (i := 7) (d := some 13) (v := .slice yA pl.length yc) rfl rfl (by kernel_rfl) (by kernel_rfl) (by kernel_rfl) (fun _ _ _ h => h) (Or.inl ⟨by rfl, ?hy107⟩) hHeld ?rest107
    case hy107 =>
      intro wS hS
      exact run_sliceop _ _ _ _ rfl _ _ _ _ rfl rfl rfl (hsl.out wS)
    (try simp only [Act.put, List.setIfInBounds_toArray, List.set_cons_zero, List.set_cons_succ])
    refine wpAnyH_ready (rs := [8]) (by kernel_rfl) (by simp) (AllReadyH.cons rfl (fun K hK => ?_) AllReadyH.nil)
    rw [if_pos (by rfl)]
    go_simp
    refine (cloneI_any yA yc pl wd hxs hlen).mono ?_
    rintro e w8 ⟨v, rfl, A9, c9, rfl, ho, hb9⟩
    replace h2 := keep1 hb9 h2
    replace h3 := keep1 hb9 h3
    replace h4 := keep1 hb9 h4
    replace hx := keep1 hb9 hx
    replace ho := Joins.ownsRow_le ho hbW.size
    replace hbW := hbW.trans (hb9.mono hbW.size)
    clear hb9
    go_wp2_with fail
    refine hK.out _ _ ⟨h2, h3, h4, hx⟩ (fun hHeld => ?_)
    clear hK K
    (try simp only [Act.put, List.setIfInBounds_toArray, List.set_cons_zero, List.set_cons_succ])
    refine wpAnyH_takeD (i := 9) (d := some 5) (v := ?v108) rfl rfl (by kernel_rfl) (by kernel_rfl) (by kernel_rfl) (fun _ _ _ h => h) (Or.inl ⟨by rfl, ?hy108⟩) hHeld ?rest108
    case hy108 =>
      intro wS hS
      go_simp
      all_goals with_reducible rfl
    (try simp only [Act.put, List.setIfInBounds_toArray, List.set_cons_zero, List.set_cons_succ])
    refine wpAnyH_done (by kernel_rfl) ?_ _
    go_wp2_with fail
    go_ret
    exact HF.out _ _ _ ho hbW
/-- what a call leaves that answers new sound and an error -/
def SndFresh (w : World) (r : Int) (ch bi ra : Int) (ll : List (List Int)) (e : Ending) (w' : World) : Prop :=
  if r = 0 then ∃ (A : Option Addr) (c : Nat) (L : List Chan), e = .returned (.tuple #[.agg #[.int .i64 ch, .int .i64 bi, .int .i64 ra, .slice A L.length c], .int .i64 0]) ∧ SeesL w' A L ∧ ints L = ll ∧ (∀ a, A = some a → w.heap.size ≤ a.block) ∧ (∀ x ∈ L, ∀ a, x.A = some a → w.heap.size ≤ a.block) ∧ Below w.heap.size w w'
  else e = .returned (.tuple #[.agg #[.int .i64 0, .int .i64 0, .int .i64 0, .slice none 0 0], .int .i64 r]) ∧ Below w.heap.size w w'
theorem SndFresh.post {w : World} {r ch bi ra : Int} {ll : List (List Int)} {e : Ending} {w' : World} (h : SndFresh w r ch bi ra ll e w') : SndPost w r ch bi ra ll e w' := by
  unfold SndFresh at h
  unfold SndPost
  by_cases h0 : r = 0
  · rw [if_pos h0] at h ⊢
    obtain ⟨A, c, L, he, hs, hi, _, _, hb⟩ := h
    exact ⟨A, c, L, he, hs, hi, hb⟩
  · rw [if_neg h0] at h ⊢
    exact h
/-- whether a part may be -/
def cutV (ch bi ra : Int) (L : List Chan) (f t : Int) : Int := if checkV ch bi ra L ≠ 0 then checkV ch bi ra L else if f < 0 ∨ t < f ∨ (countL L : Int) < t then 1 else 0
theorem snd_ints (w : World) (ch bi ra : Int) (A : Option Addr) (n c : Nat) (f t : Int) : ∃ w2, w2 = (((w.alloc (.cells #[.int .i64 ch, .int .i64 bi, .int .i64 ra, .slice A n c] 26)).alloc (.cells #[.int .i64 f] 3)).alloc (.cells #[.int .i64 t] 3)).alloc (.cells #[.int .i64 0, .int .i64 0, .int .i64 0, .slice none 0 0] 26) ∧ SndAt w2 w.heap.size ch bi ra A n c ∧ w2.cell? ⟨w.heap.size + 1, 0, none⟩ = some (.int .i64 f) ∧ w2.cell? ⟨w.heap.size + 1 + 1, 0, none⟩ = some (.int .i64 t) ∧
    w2.heap[w.heap.size + 1 + 1 + 1]? = some (.cells #[.int .i64 0, .int .i64 0, .int .i64 0, .slice none 0 0] 26 (0, 0)) ∧ Below w.heap.size w w2 ∧ w.heap.size + 4 ≤ w2.heap.size := by
  have h0 := SndAt.new w ch bi ra A n c
  have hb0 := below_box w ch bi ra A n c
  have s0 : (w.alloc (.cells #[.int .i64 ch, .int .i64 bi, .int .i64 ra, .slice A n c] 26)).heap.size = w.heap.size + 1 := by simp
  generalize w.alloc (.cells #[.int .i64 ch, .int .i64 bi, .int .i64 ra, .slice A n c] 26) = w0 at *
  have hb1 : Below w0.heap.size w0 (w0.alloc (.cells #[.int .i64 f] 3)) := (Below.refl _ _).alloc (Nat.le_refl _) _
  have h1 := heap_alloc_new w0 (.cells #[.int .i64 f] 3)
  have s1 : (w0.alloc (.cells #[.int .i64 f] 3)).heap.size = w.heap.size + 1 + 1 := by simp [s0]
  rw [s0] at h1
  replace h0 := h0.below hb1
  replace hb0 := hb0.trans (hb1.mono hb0.size)
  generalize w0.alloc (.cells #[.int .i64 f] 3) = w1 at *
  have hb2 : Below w1.heap.size w1 (w1.alloc (.cells #[.int .i64 t] 3)) := (Below.refl _ _).alloc (Nat.le_refl _) _
  have h2 := heap_alloc_new w1 (.cells #[.int .i64 t] 3)
  have s2 : (w1.alloc (.cells #[.int .i64 t] 3)).heap.size = w.heap.size + 1 + 1 + 1 := by simp [s1]
  rw [s1] at h2
  replace h0 := h0.below hb2
  replace h1 := (hb2.block _ (by omega)).trans h1
  replace hb0 := hb0.trans (hb2.mono hb0.size)
  generalize w1.alloc (.cells #[.int .i64 t] 3) = w3 at *
  have hb3 : Below w3.heap.size w3 (w3.alloc (.cells #[.int .i64 0, .int .i64 0, .int .i64 0, .slice none 0 0] 26)) := (Below.refl _ _).alloc (Nat.le_refl _) _
  have h3 := heap_alloc_new w3 (.cells #[.int .i64 0, .int .i64 0, .int .i64 0, .slice none 0 0] 26)
  rw [s2] at h3
  exact ⟨_, rfl, h0.below hb3, keep1 hb3 (by rw [cell_of_row _ _ _ _ _ _ h1]; rfl), keep1 hb3 (by rw [cell_of_row _ _ _ _ _ _ h2]; rfl), h3, hb0.trans (hb3.mono hb0.size), by simp; omega⟩
set_option maxRecDepth 20000 in
set_option maxHeartbeats 8000000 in
theorem cut_fresh (ch bi ra : Int) (A : Option Addr) (c : Nat) (L : List Chan) (f t : Int) (w : World) (hl : SeesL w A L) (h1 : L.length ≤ maxLen) (hcap : ∀ x ∈ L, x.l.length ≤ x.c) :
    Calls Try.prog 29 #[.agg #[.int .i64 ch, .int .i64 bi, .int .i64 ra, .slice A L.length c], .int .i64 f, .int .i64 t] w (SndFresh w (cutV ch bi ra L f t) ch bi ra ((List.range L.length).map (cutL L f.toNat t.toNat))) := by
  obtain ⟨w2, hw2, ha, u1, u2, r2, hb, hs⟩ := snd_ints w ch bi ra A L.length c f t
  obtain ⟨R, hR⟩ : ∃ R, R = cutV ch bi ra L f t := ⟨_, rfl⟩
  rw [← hR]
  unfold cutV at hR
  have hl0 := hl.below hb
  have KC := hid (fun W hW => check_any ch bi ra A c L W hW h1)
  have CC := hid (fun W hW => count_any ch bi ra A c L W hW)
  obtain ⟨q, hq⟩ : ∃ q, q = checkV ch bi ra L := ⟨_, rfl⟩
  rw [← hq] at hR KC
  clear hl
  obtain ⟨s0, s1, s2, s3⟩ := ha
  by_cases e1 : q = 0
  case neg =>
    rw [if_pos e1] at hR
    obtain rfl : R = q := hR
    have d1 : (R != 0) = true := by simpa using e1
    have d1' : decide (R = 0) = false := decide_eq_false e1
    have HE := hid e1
    clear hq e1
    go_enter Try.func29, Try.ntmps29
    go_wp2_with fail
    rw [← hw2]
    clear hw2
    refine (KC.out _ hl0).mono ?_
    rintro e w3 ⟨rfl, hb3⟩
    replace r2 := (hb3.block _ (by omega)).trans r2
    replace hb := hb.trans (hb3.mono hb.size)
    replace hs := Nat.le_trans hs hb3.size
    clear hb3 KC CC hl0 s0 s1 s2 s3 u1 u2
    go_wp2_with first | (refine wpList_store_row rfl 26 (.tmp 6) (.tmp 13) rfl rfl (w.heap.size + 1 + 1 + 1) rfl #[.int .i64 0, .int .i64 0, .int .i64 0, .slice none 0 0] rfl 26 #[.int .i64 0, .int .i64 0, .int .i64 0, .slice none 0 0] r2 (by kernel_rfl) rfl (by simp [Value.oneCell']) ?_)
    exact bodyPost_ret (v := .tuple #[.agg #[.int .i64 0, .int .i64 0, .int .i64 0, .slice none 0 0], .int .i64 R]) (results_row_tmp (fn := Try.f29) (p := 6) (u := 7) (ty := 26) rfl _ _ (w.heap.size + 1 + 1 + 1) _ _ _ _ rfl (setRow_heap _ _ _ _ _ _ r2) Try.underlying26 rfl (by kernel_rfl)) rfl (by
      unfold SndFresh
      rw [if_neg HE.out]
      exact ⟨rfl, below_setRow hb (by omega) _⟩)
  case pos =>
    subst e1
    rw [if_neg (by simp)] at hR
    obtain ⟨r1, n1, m1, a1⟩ := check_ok hq.symm
    have hL8 : L.length ≤ 8 := by unfold rightF at r1; have := of_decide_eq_true r1; omega
    have A1 := hid (fun x (hx : x ∈ L) => show x.l.length = countL L from (a1 x hx).1)
    have HN1 := hid n1
    have HCAP := hid hcap
    clear r1 a1 n1 hq h1 hcap
    obtain ⟨cl, hcl⟩ : ∃ cl, cl = countL L := ⟨_, rfl⟩
    rw [← hcl] at CC A1 m1 hR
    clear hcl
    have HR := hid hR
    clear hR
    by_cases k1 : f < 0
    case pos =>
      obtain rfl : R = 1 := by rw [HR.out, if_pos (Or.inl k1)]
      clear HR
      have d1 : decide (f < 0) = true := decide_eq_true k1
      go_enter Try.func29, Try.ntmps29
      go_wp2_with fail
      rw [← hw2]
      clear hw2
      refine (KC.out _ hl0).mono ?_
      rintro e w3 ⟨rfl, hb3⟩
      replace r2 := (hb3.block _ (by omega)).trans r2
      replace hb := hb.trans (hb3.mono hb.size)
      replace hs := Nat.le_trans hs hb3.size
      replace s0 := keep1 hb3 s0
      replace s1 := keep1 hb3 s1
      replace s2 := keep1 hb3 s2
      replace s3 := keep1 hb3 s3
      replace u1 := keep1 hb3 u1
      replace u2 := keep1 hb3 u2
      replace hl0 := hl0.below hb3
      clear hb3 KC
      go_wp2_with fail
      go_quiet (fail)
      replace r2 : (w3.drewN nq).heap[w.heap.size + 1 + 1 + 1]? = some (.cells #[.int .i64 0, .int .i64 0, .int .i64 0, .slice none 0 0] 26 (0, 0)) := r2
      replace hb := drewBelow hb nq
      generalize w3.drewN nq = w4 at *
      clear s0 s1 s2 s3 u1 u2
      go_wp2_with first | (refine wpList_store_row rfl 26 (.tmp 6) (.tmp 28) rfl rfl (w.heap.size + 1 + 1 + 1) rfl #[.int .i64 0, .int .i64 0, .int .i64 0, .slice none 0 0] rfl 26 #[.int .i64 0, .int .i64 0, .int .i64 0, .slice none 0 0] r2 (by kernel_rfl) rfl (by simp [Value.oneCell']) ?_)
      exact bodyPost_ret (v := .tuple #[.agg #[.int .i64 0, .int .i64 0, .int .i64 0, .slice none 0 0], .int .i64 1]) (results_row_tmp (fn := Try.f29) (p := 6) (u := 7) (ty := 26) rfl _ _ (w.heap.size + 1 + 1 + 1) _ _ _ _ rfl (setRow_heap _ _ _ _ _ _ r2) Try.underlying26 rfl (by kernel_rfl)) rfl (by
        unfold SndFresh
        rw [if_neg (by omega)]
        exact ⟨rfl, below_setRow hb (by omega) _⟩)
    have d1 : decide (f < 0) = false := decide_eq_false k1
    by_cases k2 : t < f
    case pos =>
      obtain rfl : R = 1 := by rw [HR.out, if_pos (Or.inr (Or.inl k2))]
      clear HR
      have d2 : decide (t < f) = true := decide_eq_true k2
      go_enter Try.func29, Try.ntmps29
      go_wp2_with fail
      rw [← hw2]
      clear hw2
      refine (KC.out _ hl0).mono ?_
      rintro e w3 ⟨rfl, hb3⟩
      replace r2 := (hb3.block _ (by omega)).trans r2
      replace hb := hb.trans (hb3.mono hb.size)
      replace hs := Nat.le_trans hs hb3.size
      replace s0 := keep1 hb3 s0
      replace s1 := keep1 hb3 s1
      replace s2 := keep1 hb3 s2
      replace s3 := keep1 hb3 s3
      replace u1 := keep1 hb3 u1
      replace u2 := keep1 hb3 u2
      replace hl0 := hl0.below hb3
      clear hb3 KC
      go_wp2_with fail
      go_quiet (fail)
      replace r2 : (w3.drewN nq).heap[w.heap.size + 1 + 1 + 1]? = some (.cells #[.int .i64 0, .int .i64 0, .int .i64 0, .slice none 0 0] 26 (0, 0)) := r2
      replace hb := drewBelow hb nq
      generalize w3.drewN nq = w4 at *
      clear s0 s1 s2 s3 u1 u2
      go_wp2_with first | (refine wpList_store_row rfl 26 (.tmp 6) (.tmp 28) rfl rfl (w.heap.size + 1 + 1 + 1) rfl #[.int .i64 0, .int .i64 0, .int .i64 0, .slice none 0 0] rfl 26 #[.int .i64 0, .int .i64 0, .int .i64 0, .slice none 0 0] r2 (by kernel_rfl) rfl (by simp [Value.oneCell']) ?_)
      exact bodyPost_ret (v := .tuple #[.agg #[.int .i64 0, .int .i64 0, .int .i64 0, .slice none 0 0], .int .i64 1]) (results_row_tmp (fn := Try.f29) (p := 6) (u := 7) (ty := 26) rfl _ _ (w.heap.size + 1 + 1 + 1) _ _ _ _ rfl (setRow_heap _ _ _ _ _ _ r2) Try.underlying26 rfl (by kernel_rfl)) rfl (by
        unfold SndFresh
        rw [if_neg (by omega)]
        exact ⟨rfl, below_setRow hb (by omega) _⟩)
    have d2 : decide (t < f) = false := decide_eq_false k2
    by_cases k3 : (cl : Int) < t
    case pos =>
      obtain rfl : R = 1 := by rw [HR.out, if_pos (Or.inr (Or.inr k3))]
      clear HR
      have d3 : decide ((cl : Int) < t) = true := decide_eq_true k3
      go_enter Try.func29, Try.ntmps29
      go_wp2_with fail
      rw [← hw2]
      clear hw2
      refine (KC.out _ hl0).mono ?_
      rintro e w3 ⟨rfl, hb3⟩
      replace r2 := (hb3.block _ (by omega)).trans r2
      replace hb := hb.trans (hb3.mono hb.size)
      replace hs := Nat.le_trans hs hb3.size
      replace s0 := keep1 hb3 s0
      replace s1 := keep1 hb3 s1
      replace s2 := keep1 hb3 s2
      replace s3 := keep1 hb3 s3
      replace u1 := keep1 hb3 u1
      replace u2 := keep1 hb3 u2
      replace hl0 := hl0.below hb3
      clear hb3 KC
      go_wp2_with fail
      go_region_held3 (fun w' => w'.cell? ⟨w.heap.size, 0, none⟩ = some (.int .i64 ch) ∧ w'.cell? ⟨w.heap.size, 1, none⟩ = some (.int .i64 bi) ∧ w'.cell? ⟨w.heap.size, 2, none⟩ = some (.int .i64 ra) ∧ w'.cell? ⟨w.heap.size, 3, none⟩ = some (.slice A L.length c) ∧ w'.cell? ⟨w.heap.size + 1, 0, none⟩ = some (.int .i64 f) ∧ w'.cell? ⟨w.heap.size + 1 + 1, 0, none⟩ = some (.int .i64 t)) (first | exact ⟨s0, s1, s2, s3, u1, u2⟩ | go_keep) (first | (go_at_call 14; refine (CC.out _ ?_).mono ?_; exact hl0; rintro e wa ⟨rfl, hba⟩; replace s0 := keep1 hba s0; replace s1 := keep1 hba s1; replace s2 := keep1 hba s2; replace s3 := keep1 hba s3; replace u1 := keep1 hba u1; replace u2 := keep1 hba u2; replace r2 := (hba.block _ (Nat.lt_of_lt_of_le (by omega) hs)).trans r2; replace hs := Nat.le_trans hs hba.size; replace hl0 := hl0.below ⟨hba.os, hba.tape, hba.output, hba.size, hba.block⟩; replace hb := Below.trans hb (Below.mono (w := _) ⟨hba.os, hba.tape, hba.output, hba.size, hba.block⟩ hb.size); clear hba CC))
      generalize wa = w4 at *
      clear s0 s1 s2 s3 u1 u2
      go_wp2_with first | (refine wpList_store_row rfl 26 (.tmp 6) (.tmp 28) rfl rfl (w.heap.size + 1 + 1 + 1) rfl #[.int .i64 0, .int .i64 0, .int .i64 0, .slice none 0 0] rfl 26 #[.int .i64 0, .int .i64 0, .int .i64 0, .slice none 0 0] r2 (by kernel_rfl) rfl (by simp [Value.oneCell']) ?_)
      exact bodyPost_ret (v := .tuple #[.agg #[.int .i64 0, .int .i64 0, .int .i64 0, .slice none 0 0], .int .i64 1]) (results_row_tmp (fn := Try.f29) (p := 6) (u := 7) (ty := 26) rfl _ _ (w.heap.size + 1 + 1 + 1) _ _ _ _ rfl (setRow_heap _ _ _ _ _ _ r2) Try.underlying26 rfl (by kernel_rfl)) rfl (by
        unfold SndFresh
        rw [if_neg (by omega)]
        exact ⟨rfl, below_setRow hb (by omega) _⟩)
    have d3 : decide ((cl : Int) < t) = false := decide_eq_false k3
    obtain rfl : R = 0 := by rw [HR.out, if_neg (by omega)]
    clear HR
    have HK := hid (show 0 ≤ f ∧ f ≤ t ∧ t ≤ (cl : Int) by omega)
    have HM1 := hid m1
    clear k1 k2 k3 m1
    go_enter Try.func29, Try.ntmps29
    go_wp2_with fail
    rw [← hw2]
    clear hw2
    refine (KC.out _ hl0).mono ?_
    rintro e w3 ⟨rfl, hb3⟩
    replace r2 := (hb3.block _ (by omega)).trans r2
    replace hb := hb.trans (hb3.mono hb.size)
    replace hs := Nat.le_trans hs hb3.size
    replace s0 := keep1 hb3 s0
    replace s1 := keep1 hb3 s1
    replace s2 := keep1 hb3 s2
    replace s3 := keep1 hb3 s3
    replace u1 := keep1 hb3 u1
    replace u2 := keep1 hb3 u2
    replace hl0 := hl0.below hb3
    clear hb3 KC
    go_wp2_with fail
    go_region_held3 (fun w' => w'.cell? ⟨w.heap.size, 0, none⟩ = some (.int .i64 ch) ∧ w'.cell? ⟨w.heap.size, 1, none⟩ = some (.int .i64 bi) ∧ w'.cell? ⟨w.heap.size, 2, none⟩ = some (.int .i64 ra) ∧ w'.cell? ⟨w.heap.size, 3, none⟩ = some (.slice A L.length c) ∧ w'.cell? ⟨w.heap.size + 1, 0, none⟩ = some (.int .i64 f) ∧ w'.cell? ⟨w.heap.size + 1 + 1, 0, none⟩ = some (.int .i64 t)) (first | exact ⟨s0, s1, s2, s3, u1, u2⟩ | go_keep) (first | (go_at_call 14; refine (CC.out _ ?_).mono ?_; exact hl0; rintro e wa ⟨rfl, hba⟩; replace s0 := keep1 hba s0; replace s1 := keep1 hba s1; replace s2 := keep1 hba s2; replace s3 := keep1 hba s3; replace u1 := keep1 hba u1; replace u2 := keep1 hba u2; replace r2 := (hba.block _ (Nat.lt_of_lt_of_le (by omega) hs)).trans r2; replace hs := Nat.le_trans hs hba.size; replace hl0 := hl0.below ⟨hba.os, hba.tape, hba.output, hba.size, hba.block⟩; replace hb := Below.trans hb (Below.mono (w := _) ⟨hba.os, hba.tape, hba.output, hba.size, hba.block⟩ hb.size); clear hba CC))
    generalize wa = w4 at *
    clear d1 d2 d3
    obtain ⟨k1, k2, k3⟩ := HK.out
    obtain ⟨F, rfl⟩ : ∃ n : Nat, f = (n : Int) := ⟨f.toNat, by omega⟩
    obtain ⟨T, rfl⟩ : ∃ n : Nat, t = (n : Int) := ⟨t.toNat, by omega⟩
    simp only [Int.toNat_natCast]
    have hFT : F ≤ T := by omega
    have HT := hid (show T ≤ cl by omega)
    clear k1 k2 k3 HK
    have n1 := HN1.out
    subst n1
    have HMD := hid (made_any 47 #[.pointer (some ⟨w.heap.size, 0, none⟩), .pointer (some ⟨w.heap.size + 1, 0, none⟩), .pointer (some ⟨w.heap.size + 1 + 1, 0, none⟩)] (cutL L F T) L.length bi ra w4 hL8 enterC (fun W k hk hW => cut1_any w.heap.size (w.heap.size + 1) (w.heap.size + 1 + 1) A c L F T k W (keep1 hW s3) (keep1 hW u1) (keep1 hW u2) (hl0.below hW) hk hFT (fun x hx => ⟨by rw [A1.out x hx]; exact HT.out, HCAP.out x hx, by rw [A1.out x hx]; exact HM1.out⟩)))
    go_wp2_with fail
    refine HMD.out.mono ?_
    rintro e w5 ⟨A5, c5, L5, rfl, hL5, hI5, hA5, hX5, hb5⟩
    replace r2 := (hb5.block _ (by omega)).trans r2
    have hbs := hid (hb.size)
    replace hb := hb.trans (hb5.mono hb.size)
    have hfin := SeesL.rowFar hL5 (w.heap.size + 1 + 1 + 1) #[.int .i64 (L.length : Int), .int .i64 bi, .int .i64 ra, .slice A5 L5.length c5] (fun a ha => by have := hA5 a ha; omega) (fun x hx a ha => by have := hX5 x hx a ha; omega)
    have HI5 := hid hI5
    clear hb5 s0 s1 s2 s3 u1 u2 hl0 HMD hL5 hI5
    go_wp2_with first | (refine wpList_store_row rfl 26 (.tmp 6) (.tmp 32) rfl rfl (w.heap.size + 1 + 1 + 1) rfl #[.int .i64 (L.length : Int), .int .i64 bi, .int .i64 ra, .slice A5 L5.length c5] rfl 26 #[.int .i64 0, .int .i64 0, .int .i64 0, .slice none 0 0] r2 (by kernel_rfl) rfl (by simp [Value.oneCell']) ?_)
    exact bodyPost_ret (v := .tuple #[.agg #[.int .i64 (L.length : Int), .int .i64 bi, .int .i64 ra, .slice A5 L5.length c5], .int .i64 0]) (results_row_tmp (fn := Try.f29) (p := 6) (u := 7) (ty := 26) rfl _ _ (w.heap.size + 1 + 1 + 1) _ _ _ _ rfl (setRow_heap _ _ _ _ _ _ r2) Try.underlying26 rfl (by kernel_rfl)) rfl (by
      unfold SndFresh
      rw [if_pos rfl]
      exact ⟨A5, c5, L5, rfl, hfin, HI5.out, fun a ha => Nat.le_trans hbs.out (hA5 a ha), fun x hx a ha => Nat.le_trans hbs.out (hX5 x hx a ha), below_setRow hb (by omega) _⟩)
theorem cut_any (ch bi ra : Int) (A : Option Addr) (c : Nat) (L : List Chan) (f t : Int) (w : World) (hl : SeesL w A L) (h1 : L.length ≤ maxLen) (hcap : ∀ x ∈ L, x.l.length ≤ x.c) :
    Calls Try.prog 29 #[.agg #[.int .i64 ch, .int .i64 bi, .int .i64 ra, .slice A L.length c], .int .i64 f, .int .i64 t] w (SndPost w (cutV ch bi ra L f t) ch bi ra ((List.range L.length).map (cutL L f.toNat t.toNat))) :=
  (cut_fresh ch bi ra A c L f t w hl h1 hcap).mono fun e w' h => h.post
end Go.Proofs.Ytfinefhebffpcaa
