/- What is wrong with tags: the program's and the reference's Check. -/
import Derived.Test.YtkmhmehofipehaaDoorK9
import Derived.Test.YtkmhmehofipehaaDoorK10
import Derived.Test.YtkmhmehofipehaaDoorK2
import Derived.Test.YtkmhmehofipehaaDoorK1
import Derived.Test.YtkmhmehofipehaaDoorK5
import Derived.Lib.SmallJoins
namespace Go.Proofs.YtkmhmehofipehaaDoor
set_option linter.unusedVariables false
open Go.RowKit
def badAt (l : List TagV) (k : ByteArray) (i : Nat) : Bool := (!keyB k) || (l.take i).any (alike (foldS k))
/-- what is wrong with tags, from a place on -/
def checkR (l : List TagV) : List TagV → Nat → Int × Int
  | [], _ => (0, 0)
  | x :: r, i => if badAt l x.k i = true then ((i : Int), 40) else if valB x.v = false then ((i : Int), 41) else checkR l r (i + 1)
def checkT (l : List TagV) : Int × Int := if 64 < l.length then (0, 4) else checkR l l 0
def Brief (l : List TagV) : Prop := ∀ x ∈ l, x.k.size ≤ 140737488355328 ∧ x.v.size ≤ 140737488355328
theorem Brief.take {l : List TagV} (h : Brief l) (n : Nat) : Brief (l.take n) := fun x hx => h x (List.mem_of_mem_take hx)
set_option maxRecDepth 20000 in
set_option maxHeartbeats 4000000 in
theorem check_any (A : Option Addr) (c : Nat) (l : List TagV) (w : World) (hl : SeesT w A l) (hlc : l.length ≤ c) (hlen : l.length ≤ maxLen) (hs : Brief l) (hT : Tabs w) :
    Calls Tryd.prog 64 #[.slice A l.length c] w fun e w' => e = .returned (.tuple #[.int .i64 (checkT l).1, .int .i64 (checkT l).2]) ∧ Below w.heap.size w w' := by
  unfold maxLen at hlen
  obtain ⟨R, hR⟩ : ∃ R, R = checkT l := ⟨_, rfl⟩
  rw [← hR]
  by_cases h64 : 64 < l.length
  · have d1 : decide (64 < (l.length : Int)) = true := decide_eq_true (by omega)
    obtain rfl : R = (0, 4) := by rw [hR]; unfold checkT; rw [if_pos h64]
    clear hR
    go_enter Tryd.func64, Tryd.ntmps64
    go_wp2_with fail
    go_ret2
    exact ⟨rfl, Below.refl _ _⟩
  have d1 : decide (64 < (l.length : Int)) = false := decide_eq_false (by omega)
  have HR := hid (show R = checkR l l 0 by rw [hR]; unfold checkT; rw [if_neg h64])
  clear hR
  go_enter Tryd.func64, Tryd.ntmps64
  go_wp2_with fail
  go_loopw [11] (fun i wr => ∃ k : Nat, k ≤ l.length ∧ i = .int .i64 (k : Int) ∧ Below w.heap.size w wr ∧ Hid (R = checkR l (l.drop k) k)) (fun i _ => l.length - (intOf i).toNat)
  case atStart => exact ⟨0, by omega, rfl, Below.refl _ _, hid HR.out⟩
  case round =>
    obtain ⟨k, hk, rfl, hbr, hE⟩ := hrel
    by_cases hlt : k < l.length
    · have dk : decide ((k : Int) < (l.length : Int)) = true := decide_eq_true (by omega)
      have dkl : (k : Int) < (l.length : Int) := by omega
      obtain ⟨ck, hck⟩ : ∃ ck, ck = c := ⟨_, rfl⟩
      have hkc : k ≤ c := by omega
      have HL := hid (hl.take k)
      obtain ⟨a, rfl, x1, x2⟩ := (hl.below hbr).at hlt
      have HS := hid (show checkR l (l.drop k) k = if badAt l l[k].k k = true then ((k : Int), 40) else if valB l[k].v = false then ((k : Int), 41) else checkR l (l.drop (k + 1)) (k + 1) by rw [List.drop_eq_getElem_cons hlt]; rfl)
      obtain ⟨hsx, hsv⟩ := hs l[k] (List.getElem_mem hlt)
      have HB := hid (hs.take k)
      have hlk : (l.take k).length = k := by rw [List.length_take]; omega
      generalize l[k] = x at *
      obtain ⟨xk, xv⟩ := x
      simp only at x1 x2 HS hsx hsv
      unfold badAt at HS
      obtain ⟨q, hq⟩ : ∃ q, q = l.take k := ⟨_, rfl⟩
      rw [← hq] at HL HB hlk HS
      clear hq hck ck
      go_wp2_with fail
      have hb0 : Below w.heap.size w (wr.alloc (.cells #[.string xk, .string xv] 63)) := hbr.alloc hbr.size _
      have hrow := heap_alloc_new wr (.cells #[.string xk, .string xv] 63)
      have c0 : (wr.alloc (.cells #[.string xk, .string xv] 63)).cell? ⟨wr.heap.size, 0, none⟩ = some (.string xk) := by rw [cell_of_row _ _ _ _ _ _ hrow]; rfl
      have c1 : (wr.alloc (.cells #[.string xk, .string xv] 63)).cell? ⟨wr.heap.size, 1, none⟩ = some (.string xv) := by rw [cell_of_row _ _ _ _ _ _ hrow]; rfl
      clear hrow x1 x2
      generalize wr.alloc (.cells #[.string xk, .string xv] 63) = w0 at *
      generalize wr.heap.size = g at *
      refine wp_region_held_drew (S := fun W => W.cell? ⟨g, 0, none⟩ = some (.string xk)) (by kernel_rfl) c0 (fun hHeld => ?_)
      replace c0 : w0.drew.cell? ⟨g, 0, none⟩ = some (.string xk) := c0
      replace c1 : w0.drew.cell? ⟨g, 1, none⟩ = some (.string xv) := c1
      replace hb0 : Below w.heap.size w w0.drew := hb0.drew
      generalize w0.drew = wd at *
      refine wpAnyH_takeD (i := 0) (d := some 17) (v := ?v100) rfl rfl (by kernel_rfl) (by kernel_rfl) (by kernel_rfl) (fun _ _ _ h => h) (Or.inl ⟨by rfl, ?hy100⟩) hHeld ?rest100
      case hy100 =>
        intro wS hS
        go_simp
        all_goals with_reducible rfl
      (try simp only [Act.put, List.setIfInBounds_toArray, List.set_cons_zero, List.set_cons_succ])
      refine wpAnyH_takeD (i := 1) (d := some 18) (v := ?v101) rfl rfl (by kernel_rfl) (by kernel_rfl) (by kernel_rfl) (fun _ _ _ h => h) (Or.inl ⟨by rfl, ?hy101⟩) hHeld ?rest101
      case hy101 =>
        intro wS hS
        go_simp
        all_goals with_reducible rfl
      (try simp only [Act.put, List.setIfInBounds_toArray, List.set_cons_zero, List.set_cons_succ])
      refine wpAnyH_ready (rs := [2]) (by kernel_rfl) (by simp) (AllReadyH.cons rfl (fun K hK => ?_) AllReadyH.nil)
      rw [if_pos (by rfl)]
      go_simp
      refine (iskey_any xk wd hsx).mono ?_
      rintro e w1 ⟨rfl, hb1⟩
      replace c0 := keep1 hb1 c0
      replace c1 := keep1 hb1 c1
      replace hb0 := hb0.trans (hb1.mono hb0.size)
      clear hb1
      go_wp2_with fail
      refine hK.out _ _ c0 (fun hHeld => ?_)
      clear hK K
      (try simp only [Act.put, List.setIfInBounds_toArray, List.set_cons_zero, List.set_cons_succ])
      cases hkq : keyB xk with
      | false =>
        rw [hkq] at HS
        obtain rfl : R = ((k : Int), 40) := by rw [hE.out, HS.out]; rfl
        clear HS HR hkq
        refine wpAnyH_takeD (i := 3) (d := some 20) (v := ?v102) rfl rfl (by kernel_rfl) (by kernel_rfl) (by kernel_rfl) (fun _ _ _ h => h) (Or.inl ⟨by rfl, ?hy102⟩) hHeld ?rest102
        case hy102 =>
          intro wS hS
          go_simp
          all_goals with_reducible rfl
        (try simp only [Act.put, List.setIfInBounds_toArray, List.set_cons_zero, List.set_cons_succ])
        refine wpAnyH_takeD (i := 4) (d := some 21) (v := ?v103) rfl rfl (by kernel_rfl) (by kernel_rfl) (by kernel_rfl) (fun _ _ _ h => h) (Or.inl ⟨by rfl, ?hy103⟩) hHeld ?rest103
        case hy103 =>
          intro wS hS
          go_simp
          all_goals with_reducible rfl
        (try simp only [Act.put, List.setIfInBounds_toArray, List.set_cons_zero, List.set_cons_succ])
        refine wpAnyH_takeD (i := 5) (d := some 22) (v := undef) rfl rfl (by kernel_rfl) (by kernel_rfl) (by kernel_rfl) (fun _ _ _ h => h) (Or.inr ⟨by rfl, rfl⟩) hHeld ?_
        (try simp only [Act.put, List.setIfInBounds_toArray, List.set_cons_zero, List.set_cons_succ])
        refine wpAnyH_takeD (i := 6) (d := some 23) (v := undef) rfl rfl (by kernel_rfl) (by kernel_rfl) (by kernel_rfl) (fun _ _ _ h => h) (Or.inr ⟨by rfl, rfl⟩) hHeld ?_
        (try simp only [Act.put, List.setIfInBounds_toArray, List.set_cons_zero, List.set_cons_succ])
        refine wpAnyH_takeD (i := 7) (d := some 24) (v := undef) rfl rfl (by kernel_rfl) (by kernel_rfl) (by kernel_rfl) (fun _ _ _ h => h) (Or.inr ⟨by rfl, rfl⟩) hHeld ?_
        (try simp only [Act.put, List.setIfInBounds_toArray, List.set_cons_zero, List.set_cons_succ])
        refine wpAnyH_takeD (i := 8) (d := some 25) (v := undef) rfl rfl (by kernel_rfl) (by kernel_rfl) (by kernel_rfl) (fun _ _ _ h => h) (Or.inr ⟨by rfl, rfl⟩) hHeld ?_
        (try simp only [Act.put, List.setIfInBounds_toArray, List.set_cons_zero, List.set_cons_succ])
        refine wpAnyH_takeD (i := 9) (d := some 26) (v := undef) rfl rfl (by kernel_rfl) (by kernel_rfl) (by kernel_rfl) (fun _ _ _ h => h) (Or.inr ⟨by rfl, rfl⟩) hHeld ?_
        (try simp only [Act.put, List.setIfInBounds_toArray, List.set_cons_zero, List.set_cons_succ])
        refine wpAnyH_takeD (i := 10) (d := some 27) (v := undef) rfl rfl (by kernel_rfl) (by kernel_rfl) (by kernel_rfl) (fun _ _ _ h => h) (Or.inr ⟨by rfl, rfl⟩) hHeld ?_
        (try simp only [Act.put, List.setIfInBounds_toArray, List.set_cons_zero, List.set_cons_succ])
        refine wpAnyH_takeD (i := 11) (d := some 28) (v := undef) rfl rfl (by kernel_rfl) (by kernel_rfl) (by kernel_rfl) (fun _ _ _ h => h) (Or.inr ⟨by rfl, rfl⟩) hHeld ?_
        (try simp only [Act.put, List.setIfInBounds_toArray, List.set_cons_zero, List.set_cons_succ])
        refine wpAnyH_takeD (i := 12) (d := some 29) (v := ?v104) rfl rfl (by kernel_rfl) (by kernel_rfl) (by kernel_rfl) (fun _ _ _ h => h) (Or.inl ⟨by rfl, ?hy104⟩) hHeld ?rest104
        case hy104 =>
          intro wS hS
          go_simp
          all_goals with_reducible rfl
        (try simp only [Act.put, List.setIfInBounds_toArray, List.set_cons_zero, List.set_cons_succ])
        refine wpAnyH_takeD (i := 13) (d := some 16) (v := ?v105) rfl rfl (by kernel_rfl) (by kernel_rfl) (by kernel_rfl) (fun _ _ _ h => h) (Or.inl ⟨by rfl, ?hy105⟩) hHeld ?rest105
        case hy105 =>
          intro wS hS
          go_simp
          all_goals with_reducible rfl
        (try simp only [Act.put, List.setIfInBounds_toArray, List.set_cons_zero, List.set_cons_succ])
        refine wpAnyH_done (by kernel_rfl) ?_ _
        go_wp2_with fail
        go_ret2
        exact ⟨rfl, hb0⟩
      | true =>
        rw [hkq] at HS
        clear hkq
        refine wpAnyH_takeD (i := 3) (d := some 20) (v := ?v106) rfl rfl (by kernel_rfl) (by kernel_rfl) (by kernel_rfl) (fun _ _ _ h => h) (Or.inl ⟨by rfl, ?hy106⟩) hHeld ?rest106
        case hy106 =>
          intro wS hS
          go_simp
          all_goals with_reducible rfl
        (try simp only [Act.put, List.setIfInBounds_toArray, List.set_cons_zero, List.set_cons_succ])
        refine wpAnyH_takeD (i := 4) (d := some 21) (v := ?v107) rfl rfl (by kernel_rfl) (by kernel_rfl) (by kernel_rfl) (fun _ _ _ h => h) (Or.inl ⟨by rfl, ?hy107⟩) hHeld ?rest107
        case hy107 =>
          intro wS hS
          go_simp
          all_goals with_reducible rfl
        (try simp only [Act.put, List.setIfInBounds_toArray, List.set_cons_zero, List.set_cons_succ])
        refine wpAnyH_takeD (i := 5) (d := some 22) (v := ?v108) rfl rfl (by kernel_rfl) (by kernel_rfl) (by kernel_rfl) (fun _ _ _ h => h) (Or.inl ⟨by rfl, ?hy108⟩) hHeld ?rest108
        case hy108 =>
          intro wS hS
          go_simp
          all_goals with_reducible rfl
        (try simp only [Act.put, List.setIfInBounds_toArray, List.set_cons_zero, List.set_cons_succ])
        refine wpAnyH_takeD (i := 6) (d := some 23) (v := ?v109) rfl rfl (by kernel_rfl) (by kernel_rfl) (by kernel_rfl) (fun _ _ _ h => h) (Or.inl ⟨by rfl, ?hy109⟩) hHeld ?rest109
        case hy109 =>
          intro wS hS
          go_simp
          all_goals with_reducible rfl
        (try simp only [Act.put, List.setIfInBounds_toArray, List.set_cons_zero, List.set_cons_succ])
        refine wpAnyH_takeD (i := 7) (d := some 24) (v := (.slice (some a) k c)) rfl rfl (by kernel_rfl) (by kernel_rfl) (by kernel_rfl) (fun _ _ _ h => h) (Or.inl ⟨by rfl, ?hy110⟩) hHeld ?rest110
        case hy110 =>
          intro wS hS
          exact run_sliceop_h _ _ _ rfl _ _ _ (by rfl) (by rfl) (pre_slice (some a) l.length c k hkc wS)
        (try simp only [Act.put, List.setIfInBounds_toArray, List.set_cons_zero, List.set_cons_succ])
        refine wpAnyH_takeD (i := 8) (d := some 25) (v := ?v111) rfl rfl (by kernel_rfl) (by kernel_rfl) (by kernel_rfl) (fun _ _ _ h => h) (Or.inl ⟨by rfl, ?hy111⟩) hHeld ?rest111
        case hy111 =>
          intro wS hS
          go_simp
          all_goals with_reducible rfl
        (try simp only [Act.put, List.setIfInBounds_toArray, List.set_cons_zero, List.set_cons_succ])
        refine wpAnyH_takeD (i := 9) (d := some 26) (v := ?v112) rfl rfl (by kernel_rfl) (by kernel_rfl) (by kernel_rfl) (fun _ _ _ h => h) (Or.inl ⟨by rfl, ?hy112⟩) hHeld ?rest112
        case hy112 =>
          intro wS hS
          go_simp
          all_goals with_reducible rfl
        (try simp only [Act.put, List.setIfInBounds_toArray, List.set_cons_zero, List.set_cons_succ])
        refine wpAnyH_ready (rs := [10]) (by kernel_rfl) (by simp) (AllReadyH.cons rfl (fun K hK => ?_) AllReadyH.nil)
        rw [if_pos (by rfl)]
        go_simp
        refine (like_any xk w1 hsx).mono ?_
        rintro e w2 ⟨rfl, cg, hb2⟩
        replace c0 := keep1 hb2 c0
        replace c1 := keep1 hb2 c1
        replace hb0 := hb0.trans (hb2.mono hb0.size)
        clear hb2
        have hcf := hid (hasLike_any w1.heap.size (foldS xk) (some a) c q w2 cg (HL.out.below hb0) (by omega) (fun y hy => (HB.out y hy).1))
        clear cg
        rw [hlk] at hcf
        generalize q.any (alike (foldS xk)) = v at *
        generalize w1.heap.size = g1 at *
        go_wp2_with fail
        refine hK.out _ _ c0 (fun hHeld => ?_)
        clear hK K
        (try simp only [Act.put, List.setIfInBounds_toArray, List.set_cons_zero, List.set_cons_succ])
        refine wpAnyH_ready (rs := [11]) (by kernel_rfl) (by simp) (AllReadyH.cons rfl (fun K hK => ?_) AllReadyH.nil)
        rw [if_pos (by rfl)]
        go_simp
        refine hcf.out.mono ?_
        rintro e w3 ⟨rfl, hb3⟩
        replace c0 := keep1 hb3 c0
        replace c1 := keep1 hb3 c1
        replace hb0 := hb0.trans (hb3.mono hb0.size)
        clear hb3 hcf
        go_wp2_with fail
        refine hK.out _ _ c0 (fun hHeld => ?_)
        clear hK K
        (try simp only [Act.put, List.setIfInBounds_toArray, List.set_cons_zero, List.set_cons_succ])
        refine wpAnyH_takeD (i := 12) (d := some 29) (v := ?v113) rfl rfl (by kernel_rfl) (by kernel_rfl) (by kernel_rfl) (fun _ _ _ h => h) (Or.inl ⟨by rfl, ?hy113⟩) hHeld ?rest113
        case hy113 =>
          intro wS hS
          go_simp
          all_goals with_reducible rfl
        (try simp only [Act.put, List.setIfInBounds_toArray, List.set_cons_zero, List.set_cons_succ])
        refine wpAnyH_takeD (i := 13) (d := some 16) (v := ?v114) rfl rfl (by kernel_rfl) (by kernel_rfl) (by kernel_rfl) (fun _ _ _ h => h) (Or.inl ⟨by rfl, ?hy114⟩) hHeld ?rest114
        case hy114 =>
          intro wS hS
          go_simp
          all_goals with_reducible rfl
        (try simp only [Act.put, List.setIfInBounds_toArray, List.set_cons_zero, List.set_cons_succ])
        refine wpAnyH_done (by kernel_rfl) ?_ _
        cases v with
        | true =>
          obtain rfl : R = ((k : Int), 40) := by rw [hE.out, HS.out]; rfl
          clear HS HR
          go_wp2_with fail
          go_ret2
          exact ⟨rfl, hb0⟩
        | false =>
          have hiv := hid (isval_any xv w3 hsv (hT.below hb0))
          cases hvq : valB xv with
          | false =>
            rw [hvq] at hiv HS
            obtain rfl : R = ((k : Int), 41) := by rw [hE.out, HS.out]; rfl
            clear HS HR hvq
            go_wp2_with fail
            refine hiv.out.mono ?_
            rintro e w4 ⟨rfl, hb4⟩
            clear hiv
            replace hb0 := hb0.trans (hb4.mono hb0.size)
            go_wp2_with fail
            go_ret2
            exact ⟨rfl, hb0⟩
          | true =>
            rw [hvq] at hiv HS
            have HN := hid (show R = checkR l (l.drop (k + 1)) (k + 1) by rw [hE.out, HS.out]; rfl)
            clear HS hvq
            go_wp2_with fail
            refine hiv.out.mono ?_
            rintro e w4 ⟨rfl, hb4⟩
            clear hiv
            replace hb0 := hb0.trans (hb4.mono hb0.size)
            go_wp2_with fail
            go_roundw
            case rel => exact ⟨k + 1, by omega, by go_num, hb0, HN⟩
            case measure => simp [intOf]; omega
    · obtain rfl : k = l.length := by omega
      have dk : decide ((l.length : Int) < (l.length : Int)) = false := decide_eq_false (by omega)
      obtain rfl : R = (0, 0) := by rw [hE.out, List.drop_length]; rfl
      clear HR
      go_wp2_with fail
      go_ret2
      exact ⟨rfl, hbr⟩
set_option maxRecDepth 20000 in
set_option maxHeartbeats 4000000 in
theorem rcheck_any (A : Option Addr) (c : Nat) (l : List TagV) (w : World) (hl : SeesT w A l) (hlc : l.length ≤ c) (hlen : l.length ≤ maxLen) (hs : Brief l) :
    Calls Tryd.prog 23 #[.slice A l.length c] w fun e w' => e = .returned (.tuple #[.int .i64 (checkT l).1, .int .i64 (checkT l).2]) ∧ Below w.heap.size w w' := by
  unfold maxLen at hlen
  obtain ⟨R, hR⟩ : ∃ R, R = checkT l := ⟨_, rfl⟩
  rw [← hR]
  by_cases h64 : 64 < l.length
  · have d1 : decide (64 < (l.length : Int)) = true := decide_eq_true (by omega)
    obtain rfl : R = (0, 4) := by rw [hR]; unfold checkT; rw [if_pos h64]
    clear hR
    go_enter Tryd.func23, Tryd.ntmps23
    go_wp2_with fail
    go_ret2
    exact ⟨rfl, Below.refl _ _⟩
  have d1 : decide (64 < (l.length : Int)) = false := decide_eq_false (by omega)
  have HR := hid (show R = checkR l l 0 by rw [hR]; unfold checkT; rw [if_neg h64])
  clear hR
  go_enter Tryd.func23, Tryd.ntmps23
  go_wp2_with fail
  go_loopw [4] (fun i wr => ∃ k : Nat, k ≤ l.length ∧ i = .int .i64 (k : Int) ∧ Below w.heap.size w wr ∧ Hid (R = checkR l (l.drop k) k)) (fun i _ => l.length - (intOf i).toNat)
  case atStart => exact ⟨0, by omega, rfl, Below.refl _ _, hid HR.out⟩
  case round =>
    obtain ⟨k, hk, rfl, hbr, hE⟩ := hrel
    by_cases hlt : k < l.length
    · have dk : decide ((k : Int) < (l.length : Int)) = true := decide_eq_true (by omega)
      have dkl : (k : Int) < (l.length : Int) := by omega
      obtain ⟨ck, hck⟩ : ∃ ck, ck = c := ⟨_, rfl⟩
      have hkc : k ≤ c := by omega
      have HL := hid (hl.take k)
      obtain ⟨a, rfl, x1, x2⟩ := (hl.below hbr).at hlt
      have HS := hid (show checkR l (l.drop k) k = if badAt l l[k].k k = true then ((k : Int), 40) else if valB l[k].v = false then ((k : Int), 41) else checkR l (l.drop (k + 1)) (k + 1) by rw [List.drop_eq_getElem_cons hlt]; rfl)
      obtain ⟨hsx, hsv⟩ := hs l[k] (List.getElem_mem hlt)
      have HB := hid (hs.take k)
      have hlk : (l.take k).length = k := by rw [List.length_take]; omega
      generalize l[k] = x at *
      obtain ⟨xk, xv⟩ := x
      simp only at x1 x2 HS hsx hsv
      unfold badAt at HS
      obtain ⟨q, hq⟩ : ∃ q, q = l.take k := ⟨_, rfl⟩
      rw [← hq] at HL HB hlk HS
      clear hq hck ck
      go_wp2_with fail
      refine wp_region_held_drew (S := fun W => W.cell? (a.add (k * 2)) = some (.string xk)) (by kernel_rfl) x1 (fun hHeld => ?_)
      replace x1 : wr.drew.cell? (a.add (k * 2)) = some (.string xk) := x1
      replace x2 : wr.drew.cell? { block := (a.add (k * 2)).block, off := (a.add (k * 2)).off + 1 } = some (.string xv) := x2
      replace hbr : Below w.heap.size w wr.drew := hbr.drew
      generalize wr.drew = wd at *
      refine wpAnyH_takeD (i := 0) (d := some 14) (v := ?v115) rfl rfl (by kernel_rfl) (by kernel_rfl) (by kernel_rfl) (fun _ _ _ h => h) (Or.inl ⟨by rfl, ?hy115⟩) hHeld ?rest115
      case hy115 =>
        intro wS hS
        go_simp
        all_goals with_reducible rfl
      (try simp only [Act.put, List.setIfInBounds_toArray, List.set_cons_zero, List.set_cons_succ])
      refine wpAnyH_takeD (i := 1) (d := some 15) (v := ?v116) rfl rfl (by kernel_rfl) (by kernel_rfl) (by kernel_rfl) (fun _ _ _ h => h) (Or.inl ⟨by rfl, ?hy116⟩) hHeld ?rest116
      case hy116 =>
        intro wS hS
        go_simp
        all_goals with_reducible rfl
      (try simp only [Act.put, List.setIfInBounds_toArray, List.set_cons_zero, List.set_cons_succ])
      refine wpAnyH_takeD (i := 2) (d := some 16) (v := ?v117) rfl rfl (by kernel_rfl) (by kernel_rfl) (by kernel_rfl) (fun _ _ _ h => h) (Or.inl ⟨by rfl, ?hy117⟩) hHeld ?rest117
      case hy117 =>
        intro wS hS
        go_simp
        all_goals with_reducible rfl
      (try simp only [Act.put, List.setIfInBounds_toArray, List.set_cons_zero, List.set_cons_succ])
      refine wpAnyH_takeD (i := 3) (d := some 17) (v := ?v118) rfl rfl (by kernel_rfl) (by kernel_rfl) (by kernel_rfl) (fun _ _ _ h => h) (Or.inl ⟨by rfl, ?hy118⟩) hHeld ?rest118
      case hy118 =>
        intro wS hS
        go_simp
        all_goals with_reducible rfl
      (try simp only [Act.put, List.setIfInBounds_toArray, List.set_cons_zero, List.set_cons_succ])
      refine wpAnyH_takeD (i := 4) (d := some 18) (v := ?v119) rfl rfl (by kernel_rfl) (by kernel_rfl) (by kernel_rfl) (fun _ _ _ h => h) (Or.inl ⟨by rfl, ?hy119⟩) hHeld ?rest119
      case hy119 =>
        intro wS hS
        go_simp
        all_goals with_reducible rfl
      (try simp only [Act.put, List.setIfInBounds_toArray, List.set_cons_zero, List.set_cons_succ])
      refine wpAnyH_ready (rs := [5]) (by kernel_rfl) (by simp) (AllReadyH.cons rfl (fun K hK => ?_) AllReadyH.nil)
      rw [if_pos (by rfl)]
      go_simp
      refine (rkey_any xk wd hsx).mono ?_
      rintro e w1 ⟨rfl, rfl⟩
      go_wp2_with fail
      refine hK.out _ _ x1 (fun hHeld => ?_)
      clear hK K
      (try simp only [Act.put, List.setIfInBounds_toArray, List.set_cons_zero, List.set_cons_succ])
      cases hkq : keyB xk with
      | false =>
        rw [hkq] at HS
        obtain rfl : R = ((k : Int), 40) := by rw [hE.out, HS.out]; rfl
        clear HS HR hkq
        refine wpAnyH_takeD (i := 6) (d := some 20) (v := ?v120) rfl rfl (by kernel_rfl) (by kernel_rfl) (by kernel_rfl) (fun _ _ _ h => h) (Or.inl ⟨by rfl, ?hy120⟩) hHeld ?rest120
        case hy120 =>
          intro wS hS
          go_simp
          all_goals with_reducible rfl
        (try simp only [Act.put, List.setIfInBounds_toArray, List.set_cons_zero, List.set_cons_succ])
        refine wpAnyH_takeD (i := 7) (d := some 21) (v := ?v121) rfl rfl (by kernel_rfl) (by kernel_rfl) (by kernel_rfl) (fun _ _ _ h => h) (Or.inl ⟨by rfl, ?hy121⟩) hHeld ?rest121
        case hy121 =>
          intro wS hS
          go_simp
          all_goals with_reducible rfl
        (try simp only [Act.put, List.setIfInBounds_toArray, List.set_cons_zero, List.set_cons_succ])
        refine wpAnyH_takeD (i := 8) (d := some 22) (v := undef) rfl rfl (by kernel_rfl) (by kernel_rfl) (by kernel_rfl) (fun _ _ _ h => h) (Or.inr ⟨by rfl, rfl⟩) hHeld ?_
        (try simp only [Act.put, List.setIfInBounds_toArray, List.set_cons_zero, List.set_cons_succ])
        refine wpAnyH_takeD (i := 9) (d := some 23) (v := undef) rfl rfl (by kernel_rfl) (by kernel_rfl) (by kernel_rfl) (fun _ _ _ h => h) (Or.inr ⟨by rfl, rfl⟩) hHeld ?_
        (try simp only [Act.put, List.setIfInBounds_toArray, List.set_cons_zero, List.set_cons_succ])
        refine wpAnyH_takeD (i := 10) (d := some 24) (v := undef) rfl rfl (by kernel_rfl) (by kernel_rfl) (by kernel_rfl) (fun _ _ _ h => h) (Or.inr ⟨by rfl, rfl⟩) hHeld ?_
        (try simp only [Act.put, List.setIfInBounds_toArray, List.set_cons_zero, List.set_cons_succ])
        refine wpAnyH_takeD (i := 11) (d := some 25) (v := undef) rfl rfl (by kernel_rfl) (by kernel_rfl) (by kernel_rfl) (fun _ _ _ h => h) (Or.inr ⟨by rfl, rfl⟩) hHeld ?_
        (try simp only [Act.put, List.setIfInBounds_toArray, List.set_cons_zero, List.set_cons_succ])
        refine wpAnyH_takeD (i := 12) (d := some 26) (v := undef) rfl rfl (by kernel_rfl) (by kernel_rfl) (by kernel_rfl) (fun _ _ _ h => h) (Or.inr ⟨by rfl, rfl⟩) hHeld ?_
        (try simp only [Act.put, List.setIfInBounds_toArray, List.set_cons_zero, List.set_cons_succ])
        refine wpAnyH_takeD (i := 13) (d := some 27) (v := undef) rfl rfl (by kernel_rfl) (by kernel_rfl) (by kernel_rfl) (fun _ _ _ h => h) (Or.inr ⟨by rfl, rfl⟩) hHeld ?_
        (try simp only [Act.put, List.setIfInBounds_toArray, List.set_cons_zero, List.set_cons_succ])
        refine wpAnyH_takeD (i := 14) (d := some 28) (v := undef) rfl rfl (by kernel_rfl) (by kernel_rfl) (by kernel_rfl) (fun _ _ _ h => h) (Or.inr ⟨by rfl, rfl⟩) hHeld ?_
        (try simp only [Act.put, List.setIfInBounds_toArray, List.set_cons_zero, List.set_cons_succ])
        refine wpAnyH_takeD (i := 15) (d := some 29) (v := undef) rfl rfl (by kernel_rfl) (by kernel_rfl) (by kernel_rfl) (fun _ _ _ h => h) (Or.inr ⟨by rfl, rfl⟩) hHeld ?_
        (try simp only [Act.put, List.setIfInBounds_toArray, List.set_cons_zero, List.set_cons_succ])
        refine wpAnyH_takeD (i := 16) (d := some 30) (v := undef) rfl rfl (by kernel_rfl) (by kernel_rfl) (by kernel_rfl) (fun _ _ _ h => h) (Or.inr ⟨by rfl, rfl⟩) hHeld ?_
        (try simp only [Act.put, List.setIfInBounds_toArray, List.set_cons_zero, List.set_cons_succ])
        refine wpAnyH_takeD (i := 17) (d := some 31) (v := undef) rfl rfl (by kernel_rfl) (by kernel_rfl) (by kernel_rfl) (fun _ _ _ h => h) (Or.inr ⟨by rfl, rfl⟩) hHeld ?_
        (try simp only [Act.put, List.setIfInBounds_toArray, List.set_cons_zero, List.set_cons_succ])
        refine wpAnyH_takeD (i := 18) (d := some 32) (v := ?v122) rfl rfl (by kernel_rfl) (by kernel_rfl) (by kernel_rfl) (fun _ _ _ h => h) (Or.inl ⟨by rfl, ?hy122⟩) hHeld ?rest122
        case hy122 =>
          intro wS hS
          go_simp
          all_goals with_reducible rfl
        (try simp only [Act.put, List.setIfInBounds_toArray, List.set_cons_zero, List.set_cons_succ])
        refine wpAnyH_done (by kernel_rfl) ?_ _
        go_wp2_with fail
        go_ret2
        exact ⟨rfl, hbr⟩
      | true =>
        rw [hkq] at HS
        clear hkq
        refine wpAnyH_takeD (i := 6) (d := some 20) (v := ?v123) rfl rfl (by kernel_rfl) (by kernel_rfl) (by kernel_rfl) (fun _ _ _ h => h) (Or.inl ⟨by rfl, ?hy123⟩) hHeld ?rest123
        case hy123 =>
          intro wS hS
          go_simp
          all_goals with_reducible rfl
        (try simp only [Act.put, List.setIfInBounds_toArray, List.set_cons_zero, List.set_cons_succ])
        refine wpAnyH_takeD (i := 7) (d := some 21) (v := ?v124) rfl rfl (by kernel_rfl) (by kernel_rfl) (by kernel_rfl) (fun _ _ _ h => h) (Or.inl ⟨by rfl, ?hy124⟩) hHeld ?rest124
        case hy124 =>
          intro wS hS
          go_simp
          all_goals with_reducible rfl
        (try simp only [Act.put, List.setIfInBounds_toArray, List.set_cons_zero, List.set_cons_succ])
        refine wpAnyH_takeD (i := 8) (d := some 22) (v := ?v125) rfl rfl (by kernel_rfl) (by kernel_rfl) (by kernel_rfl) (fun _ _ _ h => h) (Or.inl ⟨by rfl, ?hy125⟩) hHeld ?rest125
        case hy125 =>
          intro wS hS
          go_simp
          all_goals with_reducible rfl
        (try simp only [Act.put, List.setIfInBounds_toArray, List.set_cons_zero, List.set_cons_succ])
        refine wpAnyH_takeD (i := 9) (d := some 23) (v := ?v126) rfl rfl (by kernel_rfl) (by kernel_rfl) (by kernel_rfl) (fun _ _ _ h => h) (Or.inl ⟨by rfl, ?hy126⟩) hHeld ?rest126
        case hy126 =>
          intro wS hS
          go_simp
          all_goals with_reducible rfl
        (try simp only [Act.put, List.setIfInBounds_toArray, List.set_cons_zero, List.set_cons_succ])
        refine wpAnyH_takeD (i := 10) (d := some 24) (v := (.slice (some a) k c)) rfl rfl (by kernel_rfl) (by kernel_rfl) (by kernel_rfl) (fun _ _ _ h => h) (Or.inl ⟨by rfl, ?hy127⟩) hHeld ?rest127
        case hy127 =>
          intro wS hS
          exact run_sliceop_h _ _ _ rfl _ _ _ (by rfl) (by rfl) (pre_slice (some a) l.length c k hkc wS)
        (try simp only [Act.put, List.setIfInBounds_toArray, List.set_cons_zero, List.set_cons_succ])
        refine wpAnyH_takeD (i := 11) (d := some 25) (v := ?v128) rfl rfl (by kernel_rfl) (by kernel_rfl) (by kernel_rfl) (fun _ _ _ h => h) (Or.inl ⟨by rfl, ?hy128⟩) hHeld ?rest128
        case hy128 =>
          intro wS hS
          go_simp
          all_goals with_reducible rfl
        (try simp only [Act.put, List.setIfInBounds_toArray, List.set_cons_zero, List.set_cons_succ])
        refine wpAnyH_takeD (i := 12) (d := some 26) (v := ?v129) rfl rfl (by kernel_rfl) (by kernel_rfl) (by kernel_rfl) (fun _ _ _ h => h) (Or.inl ⟨by rfl, ?hy129⟩) hHeld ?rest129
        case hy129 =>
          intro wS hS
          go_simp
          all_goals with_reducible rfl
        (try simp only [Act.put, List.setIfInBounds_toArray, List.set_cons_zero, List.set_cons_succ])
        refine wpAnyH_takeD (i := 13) (d := some 27) (v := ?v130) rfl rfl (by kernel_rfl) (by kernel_rfl) (by kernel_rfl) (fun _ _ _ h => h) (Or.inl ⟨by rfl, ?hy130⟩) hHeld ?rest130
        case hy130 =>
          intro wS hS
          go_simp
          all_goals with_reducible rfl
        (try simp only [Act.put, List.setIfInBounds_toArray, List.set_cons_zero, List.set_cons_succ])
        refine wpAnyH_takeD (i := 14) (d := some 28) (v := ?v131) rfl rfl (by kernel_rfl) (by kernel_rfl) (by kernel_rfl) (fun _ _ _ h => h) (Or.inl ⟨by rfl, ?hy131⟩) hHeld ?rest131
        case hy131 =>
          intro wS hS
          go_simp
          all_goals with_reducible rfl
        (try simp only [Act.put, List.setIfInBounds_toArray, List.set_cons_zero, List.set_cons_succ])
        refine wpAnyH_takeD (i := 15) (d := some 29) (v := ?v132) rfl rfl (by kernel_rfl) (by kernel_rfl) (by kernel_rfl) (fun _ _ _ h => h) (Or.inl ⟨by rfl, ?hy132⟩) hHeld ?rest132
        case hy132 =>
          intro wS hS
          go_simp
          all_goals with_reducible rfl
        (try simp only [Act.put, List.setIfInBounds_toArray, List.set_cons_zero, List.set_cons_succ])
        have hcf := hid (rat_any (some a) c q xk wd (HL.out.below hbr) (by omega) (fun y hy => (HB.out y hy).1) hsx)
        have hv := idxFrom_any (alike (foldS xk)) q 0 (by omega)
        rw [hlk] at hcf
        generalize idxFrom (alike (foldS xk)) q 0 = r at *
        generalize q.any (alike (foldS xk)) = v at *
        refine wpAnyH_ready (rs := [16]) (by kernel_rfl) (by simp) (AllReadyH.cons rfl (fun K hK => ?_) AllReadyH.nil)
        rw [if_pos (by rfl)]
        go_simp
        refine hcf.out.mono ?_
        rintro e w3 ⟨rfl, hb3⟩
        replace x1 := keep1 hb3 x1
        replace x2 := keep1 hb3 x2
        replace hbr := hbr.trans (hb3.mono hbr.size)
        clear hb3 hcf
        go_wp2_with fail
        refine hK.out _ _ x1 (fun hHeld => ?_)
        clear hK K
        (try simp only [Act.put, List.setIfInBounds_toArray, List.set_cons_zero, List.set_cons_succ])
        cases v with
        | true =>
          obtain rfl : R = ((k : Int), 40) := by rw [hE.out, HS.out]; rfl
          clear HS HR
          refine wpAnyH_takeD (i := 17) (d := some 31) (v := ?v133) rfl rfl (by kernel_rfl) (by kernel_rfl) (by kernel_rfl) (fun _ _ _ h => h) (Or.inl ⟨by rfl, ?hy133⟩) hHeld ?rest133
          case hy133 =>
            intro wS hS
            go_simp
            all_goals with_reducible rfl
          (try simp only [Act.put, List.setIfInBounds_toArray, List.set_cons_zero, List.set_cons_succ])
          refine wpAnyH_takeD (i := 18) (d := some 32) (v := ?v134) rfl rfl (by kernel_rfl) (by kernel_rfl) (by kernel_rfl) (fun _ _ _ h => h) (Or.inl ⟨by rfl, ?hy134⟩) hHeld ?rest134
          case hy134 =>
            intro wS hS
            go_simp
            all_goals with_reducible rfl
          (try simp only [Act.put, List.setIfInBounds_toArray, List.set_cons_zero, List.set_cons_succ])
          refine wpAnyH_done (by kernel_rfl) ?_ _
          go_wp2_with fail
          go_ret2
          exact ⟨rfl, hbr⟩
        | false =>
          refine wpAnyH_takeD (i := 17) (d := some 31) (v := ?v135) rfl rfl (by kernel_rfl) (by kernel_rfl) (by kernel_rfl) (fun _ _ _ h => h) (Or.inl ⟨by rfl, ?hy135⟩) hHeld ?rest135
          case hy135 =>
            intro wS hS
            go_simp
            all_goals with_reducible rfl
          (try simp only [Act.put, List.setIfInBounds_toArray, List.set_cons_zero, List.set_cons_succ])
          refine wpAnyH_takeD (i := 18) (d := some 32) (v := ?v136) rfl rfl (by kernel_rfl) (by kernel_rfl) (by kernel_rfl) (fun _ _ _ h => h) (Or.inl ⟨by rfl, ?hy136⟩) hHeld ?rest136
          case hy136 =>
            intro wS hS
            go_simp
            all_goals with_reducible rfl
          (try simp only [Act.put, List.setIfInBounds_toArray, List.set_cons_zero, List.set_cons_succ])
          refine wpAnyH_done (by kernel_rfl) ?_ _
          have hiv := hid (rval_any xv w3 hsv)
          cases hvq : valB xv with
          | false =>
            rw [hvq] at hiv HS
            obtain rfl : R = ((k : Int), 41) := by rw [hE.out, HS.out]; rfl
            clear HS HR hvq
            go_wp2_with fail
            refine hiv.out.mono ?_
            rintro e w4 ⟨rfl, rfl⟩
            clear hiv
            go_wp2_with fail
            go_ret2
            exact ⟨rfl, hbr⟩
          | true =>
            rw [hvq] at hiv HS
            have HN := hid (show R = checkR l (l.drop (k + 1)) (k + 1) by rw [hE.out, HS.out]; rfl)
            clear HS hvq
            go_wp2_with fail
            refine hiv.out.mono ?_
            rintro e w4 ⟨rfl, rfl⟩
            clear hiv
            go_wp2_with fail
            exact ⟨⟨k + 1, by omega, by go_num, hbr, HN⟩, by simp [intOf]; omega⟩
    · obtain rfl : k = l.length := by omega
      have dk : decide ((l.length : Int) < (l.length : Int)) = false := decide_eq_false (by omega)
      obtain rfl : R = (0, 0) := by rw [hE.out, List.drop_length]; rfl
      clear HR
      go_wp2_with fail
      go_ret2
      exact ⟨rfl, hbr⟩
end Go.Proofs.YtkmhmehofipehaaDoor
/- What Check lets through. -/
namespace Go.Proofs.YtkmhmehofipehaaDoor
set_option linter.unusedVariables false
theorem checkR_ok (l : List TagV) : ∀ (r : List TagV) (i : Nat), (checkR l r i).2 = 0 → ∀ j, ∀ h : j < r.length, badAt l r[j].k (i + j) = false ∧ valB r[j].v = true
  | [], _, _, j, h => by simp at h
  | x :: r, i, hc, j, h => by
    unfold checkR at hc
    cases hb : badAt l x.k i with
    | true => rw [if_pos hb] at hc; exact absurd (show (40 : Int) = 0 from hc) (by decide)
    | false =>
      rw [if_neg (by rw [hb]; simp)] at hc
      cases hv : valB x.v with
      | false => rw [if_pos hv] at hc; exact absurd (show (41 : Int) = 0 from hc) (by decide)
      | true =>
        rw [if_neg (by rw [hv]; simp)] at hc
        rcases j with _ | j
        · exact ⟨hb, hv⟩
        · have := checkR_ok l r (i + 1) hc j (by simpa using h)
          rw [show i + 1 + j = i + (j + 1) by omega] at this
          exact this
theorem checkT_ok {l : List TagV} (h : (checkT l).2 = 0) : l.length ≤ 64 ∧ ∀ j, ∀ h : j < l.length, badAt l l[j].k j = false ∧ valB l[j].v = true := by
  unfold checkT at h
  by_cases h64 : 64 < l.length
  · rw [if_pos h64] at h; exact absurd h (by decide)
  · rw [if_neg h64] at h
    refine ⟨by omega, fun j hj => ?_⟩
    have := checkR_ok l l 0 h j hj
    rwa [Nat.zero_add] at this
end Go.Proofs.YtkmhmehofipehaaDoor
/- The maker: U, whole. -/
namespace Go.Proofs.YtkmhmehofipehaaDoor
set_option linter.unusedVariables false
open Go.RowKit
theorem mk_new (w : World) : Mk (w.alloc (.cells #[.int .i64 0, .slice none 0 0] 106)) w.heap.size (fun b => b = w.heap.size) 0 [] :=
  ⟨none, 0, heap_alloc_new _ _, own_nil _ _ _ _, rfl, fun a ha => (by cases ha), fun b hb => by subst hb; simp⟩
theorem makerU_any (g : Nat) (R : Nat → Prop) (err : Int) (l : List UInt8) (v : Nat) (n : Int) (w : World) (hm : Mk w g R err l) (hv : v < 18446744073709551616) (hl : l.length ≤ 140737488355000) :
    Calls Tryd.prog 46 #[.pointer (some ⟨g, 0, none⟩), .int .u64 (v : Int), .int .i64 n] w (MkPost w g R (putU (err, l) v n)) := by
  by_cases hbad : err ≠ 0 ∨ n < 1 ∨ 8 < n ∨ (n < 8 ∧ 256 ^ n.toNat ≤ v)
  · exact makerU_bad g R err l v n w hm hv hbad
  · obtain ⟨N, rfl⟩ := Int.eq_ofNat_of_zero_le (show 0 ≤ n by omega)
    obtain rfl : err = 0 := by omega
    have hp : putU (0, l) v (N : Int) = (0, l ++ bytesLE v N) := by
      rw [putU, if_neg (by simp), if_neg (by omega), if_neg (fun h => hbad (.inr (.inr (.inr h))))]; rfl
    rw [hp]
    refine makerU_ok g R l v N w hm hv (by omega) ?_ hl
    by_cases h8 : N = 8
    · exact .inl h8
    · right
      rcases Nat.lt_or_ge v (256 ^ N) with h | h
      · exact h
      · exact absurd (.inr (.inr (.inr ⟨by omega, by simpa using h⟩))) hbad
set_option maxHeartbeats 1000000 in
theorem makerU_nil (v n : Int) (w : World) :
    Calls Tryd.prog 46 #[.pointer none, .int .u64 v, .int .i64 n] w fun e w' => e = .returned (.tuple #[]) ∧ w = w' := by
  go_enter Tryd.func46, Tryd.ntmps46
  go_wp2_with fail
  refine (mready_nil _).mono ?_
  rintro e w' ⟨rfl, rfl⟩
  go_wp2_with fail
  exact bodyPost_ret (results_none rfl _ _ _) rfl ⟨rfl, rfl⟩
end Go.Proofs.YtkmhmehofipehaaDoor
/- The maker: Text (where there is no I). -/
namespace Go.Proofs.YtkmhmehofipehaaDoor
set_option linter.unusedVariables false
open Go.RowKit
def putText (s : Int × List UInt8) (b : List UInt8) (n : Int) : Int × List UInt8 := putRaw (putU s b.length n) b
set_option maxHeartbeats 1000000 in
theorem text_any (g : Nat) (R : Nat → Prop) (err : Int) (l : List UInt8) (s : ByteArray) (n : Int) (w : World) (hm : Mk w g R err l) (hl : l.length + s.size ≤ 140737488355000) :
    Calls Tryd.prog 65 #[.pointer (some ⟨g, 0, none⟩), .string s, .int .i64 n] w (MkPost w g R (putText (err, l) s.data.toList n)) := by
  have hc0 := hm.cell0
  have hsz : s.data.toList.length = s.size := by rw [Array.length_toList]; rfl
  by_cases h0 : err = 0
  · subst h0
    go_enter Tryd.func65, Tryd.ntmps65
    go_wp2_with fail
    refine (mready_is g 0 true _ hc0 rfl).mono ?_
    rintro e w' ⟨rfl, rfl⟩
    go_wp2_with fail
    have hlen : s.size ≤ 9223372036854775807 := by omega
    refine (makerU_any g R 0 l s.size n _ hm (by omega) (by omega)).mono ?_
    rintro e w1 ⟨rfl, R1, hm1, hb1, hR1⟩
    obtain ⟨c, w2, hconv, hb2, hs2, hsl⟩ := conv_sb s w1
    have hlt := hm1.lt
    have hm2 := hm1.below hb2
    have hU : putU (0, l) s.size n = putU (0, l) s.data.toList.length n := by rw [hsz]
    have hUl : (putU (0, l) s.size n).2.length ≤ l.length + 8 := by
      unfold putU
      rw [if_neg (by simp)]
      split
      · simp
      · split
        · simp
        · simp only [List.length_append, bytesLE_length]
          omega
    have HU := hid hU
    have HSL := hid hsl
    clear hU hsl hsz
    go_wp2_with fail
    rw [← HSL.out]
    refine (raw_any g R1 _ _ _ c s.data.toList w2 hm2 hs2 (by rw [HSL.out]; omega)).mono ?_
    rintro e w3 ⟨rfl, R3, hm3, hb3, hR3⟩
    go_wp2_with fail
    go_end0
    refine ⟨rfl, R3, ?_, (hb1.trans (But.of_below (R := fun _ => False) hb2) (fun n h => h.elim)).trans hb3 hR1, fun b hb => ?_⟩
    · unfold putText
      rw [← HU.out]; exact hm3
    · rcases hR3 b hb with h | h
      · exact hR1 b h
      · exact .inr (Nat.le_trans hb1.size (Nat.le_trans hb2.size h))
  · have hp : putText (err, l) s.data.toList n = (err, l) := by
      unfold putText putRaw putU
      rw [if_pos h0, if_pos h0]
    rw [hp]
    have d0 : (err == 0) = false := by simpa using h0
    go_enter Tryd.func65, Tryd.ntmps65
    go_wp2_with fail
    refine (mready_is g err false _ hc0 d0).mono ?_
    rintro e w' ⟨rfl, rfl⟩
    go_wp2_with fail
    exact bodyPost_ret (results_none rfl _ _ _) rfl ⟨rfl, R, hm, But.refl _ _, fun b h => .inl h⟩
end Go.Proofs.YtkmhmehofipehaaDoor
/- A number laid that fits; bytes with their sum. -/
namespace Go.Proofs.YtkmhmehofipehaaDoor
set_option linter.unusedVariables false
open Go.RowKit
def sealed (l : List UInt8) : List UInt8 := l ++ bytesLE (sumI l).toNat 4
theorem putU_ok (l : List UInt8) (v n : Nat) (h : 1 ≤ n ∧ n ≤ 8) (hv : v < 256 ^ n) : putU (0, l) v (n : Int) = (0, l ++ bytesLE v n) := by
  rw [putU, if_neg (by simp), if_neg (by omega), if_neg]
  · rfl
  · rintro ⟨_, h3⟩
    rw [Int.toNat_natCast] at h3
    omega
theorem NewB.lower {w w1 w2 : World} {l : List UInt8} {v : Value} (h : NewB w1 l v w2) (hb : Below w.heap.size w w1) : NewB w l v w2 := by
  obtain ⟨A, c, hv, ho, h2⟩ := h
  exact ⟨A, c, hv, Joins.ownsRow_le ho hb.size, hb.trans (h2.mono hb.size)⟩
def PutPost (w : World) (l : List UInt8) (e : Ending) (w' : World) : Prop := ∃ v, e = .returned (.tuple #[v, .int .i64 0]) ∧ NewB w l v w'
end Go.Proofs.YtkmhmehofipehaaDoor
/- Tags as bytes, plainly. -/
namespace Go.Proofs.YtkmhmehofipehaaDoor
set_option linter.unusedVariables false
open Go.RowKit
def oneB (x : TagV) : List UInt8 := bytesLE x.k.data.toList.length 1 ++ (x.k.data.toList ++ (bytesLE x.v.data.toList.length 2 ++ x.v.data.toList))
def itemsB : List TagV → List UInt8
  | [] => []
  | x :: r => oneB x ++ itemsB r
def headB (l : List TagV) : List UInt8 := [84, 71, UInt8.ofNat l.length]
def tagsB (l : List TagV) : List UInt8 := headB l ++ itemsB l
theorem itemsB_snoc (x : TagV) : ∀ l : List TagV, itemsB (l ++ [x]) = itemsB l ++ oneB x
  | [] => by simp [itemsB]
  | y :: l => by
    show oneB y ++ itemsB (l ++ [x]) = (oneB y ++ itemsB l) ++ oneB x
    rw [itemsB_snoc x l, List.append_assoc]
theorem itemsB_step (l : List TagV) (k : Nat) (h : k < l.length) : itemsB (l.take (k + 1)) = itemsB (l.take k) ++ oneB l[k] := by
  rw [List.take_succ_eq_append_getElem h, itemsB_snoc]
theorem size_list (s : ByteArray) : s.data.toList.length = s.size := by rw [Array.length_toList]; rfl
theorem oneB_len (x : TagV) : (oneB x).length = 3 + x.k.size + x.v.size := by
  unfold oneB
  simp only [List.length_append, bytesLE_length, size_list]
  omega
/-- tags that Check lets through are short -/
def Short (l : List TagV) : Prop := l.length ≤ 64 ∧ ∀ i, ∀ h : i < l.length, l[i].k.size ≤ 32 ∧ l[i].v.size ≤ 1024
theorem itemsB_len {l : List TagV} (h : Short l) : ∀ k, k ≤ l.length → (itemsB (l.take k)).length ≤ 1059 * k
  | 0, _ => by simp [itemsB]
  | k + 1, hk => by
    have hlt : k < l.length := by omega
    have h0 := itemsB_len h k (by omega)
    have h1 := h.2 k hlt
    rw [itemsB_step l k hlt, List.length_append, oneB_len]
    omega
theorem tagsB_len {l : List TagV} (h : Short l) : (tagsB l).length ≤ 70000 := by
  have h1 := itemsB_len h l.length (Nat.le_refl _)
  have h2 := h.1
  rw [List.take_length] at h1
  unfold tagsB headB
  simp only [List.length_append, List.length_cons, List.length_nil]
  omega
end Go.Proofs.YtkmhmehofipehaaDoor
/- Tags as bytes: the program's Put. -/
namespace Go.Proofs.YtkmhmehofipehaaDoor
set_option linter.unusedVariables false
open Go.RowKit
theorem short_of {l : List TagV} (h : (checkT l).2 = 0) : Short l := by
  obtain ⟨h64, ha⟩ := checkT_ok h
  refine ⟨h64, fun i hi => ?_⟩
  obtain ⟨hb, hv⟩ := ha i hi
  unfold badAt at hb
  rw [Bool.or_eq_false_iff] at hb
  have hk : keyB l[i].k = true := by have := hb.1; simpa using this
  unfold keyB at hk
  unfold valB at hv
  simp only [Bool.and_eq_true, decide_eq_true_eq] at hk hv
  exact ⟨hk.2.2, hv.1⟩
/-- a text that is short enough is laid as it is -/
theorem putText_ok (l b : List UInt8) (n : Nat) (h : 1 ≤ n ∧ n ≤ 8) (hv : b.length < 256 ^ n) : putText (0, l) b (n : Int) = (0, l ++ (bytesLE b.length n ++ b)) := by
  unfold putText
  rw [putU_ok l b.length n h hv]
  unfold putRaw
  rw [if_neg (by simp), List.append_assoc]
theorem tagput_nil (v : Value) (w : World) : Calls Tryd.prog 39 #[.pointer none, v] w fun e w' => e = .returned (.tuple #[.slice none 0 0, .int .i64 2]) ∧ w = w' := by
  go_enter Tryd.func39, Tryd.ntmps39
  go_wp2_with fail
  go_ret2
  exact ⟨rfl, rfl⟩
set_option maxRecDepth 20000 in
set_option maxHeartbeats 2000000 in
theorem tagput_bad (g : Nat) (A : Option Addr) (c : Nat) (l : List TagV) (w : World) (hl : SeesT w A l) (hlc : l.length ≤ c) (hlen : l.length ≤ maxLen) (hs : Brief l) (hT : Tabs w) (hb : (checkT l).2 ≠ 0) :
    Calls Tryd.prog 39 #[.pointer (some ⟨g, 0, none⟩), .slice A l.length c] w fun e w' => e = .returned (.tuple #[.slice none 0 0, .int .i64 (checkT l).2]) ∧ Below w.heap.size w w' := by
  have hC := hid (check_any A c l w hl hlc hlen hs hT)
  generalize checkT l = R at *
  obtain ⟨a, e⟩ := R
  simp only at hb hC ⊢
  have de : (e != 0) = true := by simpa using hb
  go_enter Tryd.func39, Tryd.ntmps39
  go_wp2_with fail
  refine hC.out.mono ?_
  rintro e w1 ⟨rfl, hb1⟩
  go_wp2_with fail
  go_ret2
  exact ⟨rfl, hb1⟩
set_option maxRecDepth 20000 in
set_option maxHeartbeats 4000000 in
theorem tagput_ok (g : Nat) (A : Option Addr) (c : Nat) (l : List TagV) (w : World) (ht : Tab w g) (hl : SeesT w A l) (hlc : l.length ≤ c) (hlen : l.length ≤ maxLen) (hs : Brief l) (hT : Tabs w) (hz : (checkT l).2 = 0) :
    Calls Tryd.prog 39 #[.pointer (some ⟨g, 0, none⟩), .slice A l.length c] w (PutPost w (sealed (tagsB l))) := by
  have htg := ht.lt
  have hS := short_of hz
  have hC := hid (check_any A c l w hl hlc hlen hs hT)
  generalize checkT l = R at *
  obtain ⟨a, e⟩ := R
  simp only at hz hC
  subst hz
  have h64 := hS.1
  have hln : (l.length : Int) % 256 = (l.length : Int) := by omega
  go_enter Tryd.func39, Tryd.ntmps39
  go_wp2_with fail
  refine hC.out.mono ?_
  rintro e w1 ⟨rfl, hb1⟩
  have hl1 := hl.below hb1
  have hm := mk_new w1
  have hb2 : Below w1.heap.size w1 (w1.alloc (.cells #[.int .i64 0, .slice none 0 0] 106)) := (Below.refl _ w1).alloc (Nat.le_refl _) _
  have hsz2 : (w1.alloc (.cells #[.int .i64 0, .slice none 0 0] 106)).heap.size = w1.heap.size + 1 := by simp
  have hbw2 := hb1.trans (hb2.mono hb1.size)
  have hhead := hid (show #[.int .u8 84, .int .u8 71, .int .u8 (l.length : Int)] = ((headB l).map byteV).toArray by
    unfold headB byteV
    simp only [List.map_cons, List.map_nil, UInt8.toNat_ofNat']
    rw [Nat.mod_eq_of_lt (by omega)]
    rfl)
  have hwl : w.heap.size ≤ w1.heap.size := hb1.size
  go_wp2_with fail
  generalize w1.alloc (.cells #[.int .i64 0, .slice none 0 0] 106) = w2 at *
  have hb3 : Below w2.heap.size w2 (w2.alloc (.cells #[.int .u8 84, .int .u8 71, .int .u8 (l.length : Int)] 5)) := (Below.refl _ w2).alloc (Nat.le_refl _) _
  have hs3 : SeesB (w2.alloc (.cells #[.int .u8 84, .int .u8 71, .int .u8 (l.length : Int)] 5)) (some ⟨w1.heap.size + 1, 0, none⟩) (headB l) := by
    rw [← hsz2]
    exact Sees.of_block (heap_alloc_new w2 _) (by rw [hhead.out])
  have hm3 := hm.below hb3
  have hbw3 := hbw2.trans (hb3.mono hbw2.size)
  clear hm hb3 hhead
  generalize w2.alloc (.cells #[.int .u8 84, .int .u8 71, .int .u8 (l.length : Int)] 5) = w3 at *
  refine (raw_any w1.heap.size _ 0 [] _ 3 (headB l) w3 hm3 hs3 (by simp [headB])).mono ?_
  rintro e w4 ⟨rfl, R4, hm4, hB4, hR4⟩
  rw [show putRaw (0, []) (headB l) = (0, headB l) from rfl] at hm4
  generalize w1.heap.size = g0 at *
  have hR4' : ∀ b, R4 b → g0 ≤ b := fun b h => by
    rcases hR4 b h with h | h
    · exact Nat.le_of_eq h.symm
    · have := hm3.lt; omega
  have hbw4 := But.below hbw3 hB4 (fun n h => by omega) hbw3.size
  clear hm3 hs3 hB4 hR4 hbw3 hb2 hsz2 hbw2 hl1 hb1
  go_wp2_with fail
  go_loopw [10, 33] (fun x i wr => ∃ n : Nat, n ≤ l.length ∧ i = .int .i64 n ∧ ∃ R, Mk wr g0 R 0 (headB l ++ itemsB (l.take n)) ∧ (∀ b, R b → g0 ≤ b) ∧ Below w.heap.size w wr) (fun _ i _ => l.length - (intOf i).toNat)
  case atStart => exact ⟨0, by omega, rfl, R4, by simpa [itemsB] using hm4, hR4', hbw4⟩
  case round =>
    clear hm4 hR4' hbw4
    obtain ⟨n, hn, rfl, R, hm, hR, hbw⟩ := hrel
    have HIL := hid (itemsB_len hS n hn)
    by_cases hlt : n < l.length
    · have hd : decide (n < l.length) = true := by simpa using hlt
      obtain ⟨a, rfl, x1, x2⟩ := (hl.below hbw).at hlt
      have hsz := hS.2 n hlt
      have HIS := hid (itemsB_step l n hlt)
      obtain ⟨M, hM⟩ : ∃ M, M = headB l ++ itemsB (l.take n) := ⟨_, rfl⟩
      have hML : M.length ≤ 70000 := by rw [hM, List.length_append]; have := HIL.out; unfold headB; simp only [List.length_cons, List.length_nil]; omega
      obtain ⟨K1, hK1⟩ : ∃ K1, K1 = bytesLE l[n].k.data.toList.length 1 ++ l[n].k.data.toList := ⟨_, rfl⟩
      obtain ⟨V1, hV1⟩ : ∃ V1, V1 = bytesLE l[n].v.data.toList.length 2 ++ l[n].v.data.toList := ⟨_, rfl⟩
      have HO := hid (show oneB l[n] = K1 ++ V1 by unfold oneB; rw [hK1, hV1, List.append_assoc])
      have HM2 := hid (show headB l ++ itemsB (l.take (n + 1)) = M ++ K1 ++ V1 by rw [HIS.out, HO.out, hM, List.append_assoc, List.append_assoc])
      have HKl : K1.length ≤ 33 := by rw [hK1, List.length_append, bytesLE_length, size_list]; omega
      have hK := hid (fun R W (h : Mk W g0 R 0 M) => show Calls Tryd.prog 65 #[.pointer (some ⟨g0, 0, none⟩), .string l[n].k, .int .i64 1] W (MkPost W g0 R (0, M ++ K1)) by
        rw [hK1, ← putText_ok M l[n].k.data.toList 1 (by omega) (by rw [size_list]; omega)]
        exact text_any g0 R 0 M l[n].k 1 W h (by omega))
      have hV := hid (fun R W (h : Mk W g0 R 0 (M ++ K1)) => show Calls Tryd.prog 65 #[.pointer (some ⟨g0, 0, none⟩), .string l[n].v, .int .i64 2] W (MkPost W g0 R (0, M ++ K1 ++ V1)) by
        rw [hV1, ← putText_ok (M ++ K1) l[n].v.data.toList 2 (by omega) (by rw [size_list]; omega)]
        exact text_any g0 R 0 (M ++ K1) l[n].v 2 W h (by rw [List.length_append]; omega))
      rw [← hM] at hm
      clear hK1 hV1 hsz hM HIS HO HIL
      generalize l[n].k = kk at *
      generalize l[n].v = vv at *
      have hRs : ∀ b, R b → b < wr.heap.size := by
        obtain ⟨_, _, _, _, _, _, hz⟩ := hm
        exact hz
      have hgl := hm.lt
      have hb6 : Below wr.heap.size wr (wr.alloc (.cells #[.string kk, .string vv] 63)) := (Below.refl _ wr).alloc (Nat.le_refl _) _
      have hrow := heap_alloc_new wr (.cells #[.string kk, .string vv] 63)
      have hlt6 := (Array.getElem?_eq_some_iff.1 hrow).1
      have c0 : (wr.alloc (.cells #[.string kk, .string vv] 63)).cell? ⟨wr.heap.size, 0, none⟩ = some (.string kk) := by rw [cell_of_row _ _ _ _ _ _ hrow]; rfl
      have hm6 := hm.below hb6
      have hbw6 := hbw.trans (hb6.mono hbw.size)
      have hgr : w.heap.size ≤ wr.heap.size := hbw.size
      clear hm hb6 hbw
      go_wp2_with fail
      generalize wr.alloc (.cells #[.string kk, .string vv] 63) = w6 at *
      generalize wr.heap.size = gx at *
      refine (hK.out R w6 hm6).mono ?_
      rintro e w7 ⟨rfl, R7, hm7, hB7, hR7⟩
      have hrow7 := (hB7.block gx hlt6 (fun h => by have := hRs _ h; omega)).trans hrow
      have hlt7 := Nat.lt_of_lt_of_le hlt6 hB7.size
      have c1 : w7.cell? ⟨gx, 1, none⟩ = some (.string vv) := by rw [cell_of_row _ _ _ _ _ _ hrow7]; rfl
      have hbw7 := But.below hbw6 hB7 (fun b h => by have := hR b h; omega) hbw6.size
      have hR7' : ∀ b, R7 b → g0 ≤ b := fun b h => by
        rcases hR7 b h with h | h
        · exact hR b h
        · omega
      clear c0 hrow hm6 hB7 hR7 hbw6
      go_wp2_with fail
      refine (hV.out R7 w7 hm7).mono ?_
      rintro e w8 ⟨rfl, R8, hm8, hB8, hR8⟩
      have hbw8 := But.below hbw7 hB8 (fun b h => by have := hR7' b h; omega) hbw7.size
      have hR8' : ∀ b, R8 b → g0 ≤ b := fun b h => by
        rcases hR8 b h with h | h
        · exact hR7' b h
        · omega
      clear c1 hm7 hB8 hR8 hbw7
      go_wp2_with fail
      exact ⟨⟨n + 1, hlt, by go_num, R8, by rw [HM2.out]; exact hm8, hR8', hbw8⟩, by simp [intOf]; omega⟩
    · obtain rfl : n = l.length := by omega
      have hd : decide (l.length < l.length) = false := by simp
      have HLl := hid (tagsB_len hS)
      have hm4 : Mk wr g0 R 0 (tagsB l) := by rw [List.take_length] at hm; exact hm
      clear hm HIL
      generalize tagsB l = L at *
      go_wp2_with fail
      refine (bytes_ok g0 R L wr hm4 (by have := HLl.out; omega)).mono ?_
      rintro e w8 ⟨v, rfl, hv⟩
      obtain ⟨A8, c8, rfl, hs8, hA8, ho8, hb8⟩ := hv.parts
      have hbw8 := hbw.trans (hb8.mono hbw.size)
      have hm8 := hm4.below hb8
      have hsr := sumI_range L
      obtain ⟨S, hS4⟩ := Int.eq_ofNat_of_zero_le hsr.1
      go_wp2_with fail
      refine (sum_any g A8 c8 L w8 (ht.keep hbw8 htg) hs8 (by have := HLl.out; omega)).mono ?_
      rintro e w9 ⟨rfl, rfl⟩
      have hse : sealed L = L ++ bytesLE S 4 := by unfold sealed; rw [hS4]; rfl
      have HSE := hid hse
      rw [hS4] at hsr ⊢
      have hS5 : S < 4294967296 := by omega
      clear hse hS4
      have hp : putU (0, L) S 4 = (0, L ++ bytesLE S 4) := putU_ok _ S 4 (by omega) (by omega)
      have hst := hid (makerU_any g0 R 0 L S 4 w8 hm8 (by omega) (by have := HLl.out; omega))
      rw [hp] at hst
      clear hp hv ho8 hs8 hA8
      go_wp2_with fail
      refine hst.out.mono ?_
      rintro e wa ⟨rfl, Ra, hma, hBa, hRa⟩
      have hbwa := But.below hbw8 hBa (fun b h => by have := hR b h; omega) hbw8.size
      go_wp2_with fail
      refine (bytes_ok g0 Ra _ wa hma (by rw [List.length_append, bytesLE_length]; have := HLl.out; omega)).mono ?_
      rintro e wb ⟨v, rfl, hv⟩
      have hf : PutPost w (sealed L) (.returned (.tuple #[v, .int .i64 0])) wb := ⟨v, rfl, by rw [HSE.out]; exact hv.lower hbwa⟩
      go_wp2_with fail
      go_ret2
      exact hf
end Go.Proofs.YtkmhmehofipehaaDoor
