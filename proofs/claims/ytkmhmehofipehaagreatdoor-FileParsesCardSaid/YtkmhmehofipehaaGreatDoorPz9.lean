/- What is wrong with tags: the program's and the reference's Check. -/
import Derived.Test.YtkmhmehofipehaaGreatDoorPz7
import Derived.Test.YtkmhmehofipehaaGreatDoorPz8
import Derived.Test.YtkmhmehofipehaaGreatDoorPz2
import Derived.Test.YtkmhmehofipehaaGreatDoorPz1
import Derived.Test.YtkmhmehofipehaaGreatDoorPz4
import Derived.Lib.SmallJoins
namespace Go.Proofs.YtkmhmehofipehaaGreatDoor
set_option linter.unusedVariables false
open Go.RowKit
def badAt (l : List TagV) (k : ByteArray) (i : Nat) : Bool := (!keyB k) || (l.take i).any (alike (foldS k))
/-- what is wrong with tags, from a place on -/
def checkR (l : List TagV) : List TagV → Nat → Int × Int
  | [], _ => (0, 0)
  | x :: r, i => if badAt l x.k i = true then ((i : Int), 40) else if valB x.v = false then ((i : Int), 41) else checkR l r (i + 1)
def checkT (l : List TagV) : Int × Int := if 64 < l.length then (0, 4) else checkR l l 0
def Brief (l : List TagV) : Prop := ∀ x ∈ l, x.k.size ≤ 140737488355328 ∧ x.v.size ≤ 140737488355328
theorem Brief.take {l : List TagV} (h : Brief l) (n : Nat) : Brief (l.take n) := fun x hx => h x (List.mem_of_mem_take hx)
set_option maxRecDepth 20000 in
set_option maxHeartbeats 4000000 in
theorem check_any (A : Option Addr) (c : Nat) (l : List TagV) (w : World) (hl : SeesT w A l) (hlc : l.length ≤ c) (hlen : l.length ≤ maxLen) (hs : Brief l) (hT : Tabs w) :
    Calls Tryz.prog 62 #[.slice A l.length c] w fun e w' => e = .returned (.tuple #[.int .i64 (checkT l).1, .int .i64 (checkT l).2]) ∧ Below w.heap.size w w' := by
  unfold maxLen at hlen
  obtain ⟨R, hR⟩ : ∃ R, R = checkT l := ⟨_, rfl⟩
  rw [← hR]
  by_cases h64 : 64 < l.length
  · have d1 : decide (64 < (l.length : Int)) = true := decide_eq_true (by omega)
    obtain rfl : R = (0, 4) := by rw [hR]; unfold checkT; rw [if_pos h64]
    clear hR
    go_enter Tryz.func62, Tryz.ntmps62
    go_wp2_with fail
    go_ret2
    exact ⟨rfl, Below.refl _ _⟩
  have d1 : decide (64 < (l.length : Int)) = false := decide_eq_false (by omega)
  have HR := hid (show R = checkR l l 0 by rw [hR]; unfold checkT; rw [if_neg h64])
  clear hR
  go_enter Tryz.func62, Tryz.ntmps62
  go_wp2_with fail
  go_loopw [11] (fun i wr => ∃ k : Nat, k ≤ l.length ∧ i = .int .i64 (k : Int) ∧ Below w.heap.size w wr ∧ Hid (R = checkR l (l.drop k) k)) (fun i _ => l.length - (intOf i).toNat)
  case atStart => exact ⟨0, by omega, rfl, Below.refl _ _, hid HR.out⟩
  case round =>
    obtain ⟨k, hk, rfl, hbr, hE⟩ := hrel
    by_cases hlt : k < l.length
    · have dk : decide ((k : Int) < (l.length : Int)) = true := decide_eq_true (by omega)
      have dkl : (k : Int) < (l.length : Int) := by omega
      obtain ⟨ck, hck⟩ : ∃ ck, ck = c := ⟨_, rfl⟩
      have hkc : k ≤ c := by omega
      have HL := hid (hl.take k)
      obtain ⟨a, rfl, x1, x2⟩ := (hl.below hbr).at hlt
      have HS := hid (show checkR l (l.drop k) k = if badAt l l[k].k k = true then ((k : Int), 40) else if valB l[k].v = false then ((k : Int), 41) else checkR l (l.drop (k + 1)) (k + 1) by rw [List.drop_eq_getElem_cons hlt]; rfl)
      obtain ⟨hsx, hsv⟩ := hs l[k] (List.getElem_mem hlt)
      have HB := hid (hs.take k)
      have hlk : (l.take k).length = k := by rw [List.length_take]; omega
      generalize l[k] = x at *
      obtain ⟨xk, xv⟩ := x
      simp only at x1 x2 HS hsx hsv
      unfold badAt at HS
      obtain ⟨q, hq⟩ : ∃ q, q = l.take k := ⟨_, rfl⟩
      rw [← hq] at HL HB hlk HS
      clear hq hck ck
      go_wp2_with fail
      have hb0 : Below w.heap.size w (wr.alloc (.cells #[.string xk, .string xv] 100)) := hbr.alloc hbr.size _
      have hrow := heap_alloc_new wr (.cells #[.string xk, .string xv] 100)
      have c0 : (wr.alloc (.cells #[.string xk, .string xv] 100)).cell? ⟨wr.heap.size, 0, none⟩ = some (.string xk) := by rw [cell_of_row _ _ _ _ _ _ hrow]; rfl
      have c1 : (wr.alloc (.cells #[.string xk, .string xv] 100)).cell? ⟨wr.heap.size, 1, none⟩ = some (.string xv) := by rw [cell_of_row _ _ _ _ _ _ hrow]; rfl
      clear hrow x1 x2
      generalize wr.alloc (.cells #[.string xk, .string xv] 100) = w0 at *
      generalize wr.heap.size = g at *
      refine wp_region_held_drew (S := fun W => W.cell? ⟨g, 0, none⟩ = some (.string xk)) (by kernel_rfl) c0 (fun hHeld => ?_)
      replace c0 : w0.drew.cell? ⟨g, 0, none⟩ = some (.string xk) := c0
      replace c1 : w0.drew.cell? ⟨g, 1, none⟩ = some (.string xv) := c1
      replace hb0 : Below w.heap.size w w0.drew := hb0.drew
      generalize w0.drew = wd at *
      refine wpAnyH_takeD (i := 0) (d := some 17) (v := ?v100) rfl rfl (by kernel_rfl) (by kernel_rfl) (by kernel_rfl) (fun _ _ _ h => h) (Or.inl ⟨by rfl, ?hy100⟩) hHeld ?rest100
      case hy100 =>
        intro wS hS
        go_simp
        all_goals with_reducible rfl
      (try simp only [Act.put, List.setIfInBounds_toArray, List.set_cons_zero, List.set_cons_succ])
      refine wpAnyH_takeD (i := 1) (d := some 18) (v := ?v101) rfl rfl (by kernel_rfl) (by kernel_rfl) (by kernel_rfl) (fun _ _ _ h => h) (Or.inl ⟨by rfl, ?hy101⟩) hHeld ?rest101
      case hy101 =>
        intro wS hS
        go_simp
        all_goals with_reducible rfl
      (try simp only [Act.put, List.setIfInBounds_toArray, List.set_cons_zero, List.set_cons_succ])
      refine wpAnyH_ready (rs := [2]) (by kernel_rfl) (by simp) (AllReadyH.cons rfl (fun K hK => ?_) AllReadyH.nil)
      rw [if_pos (by rfl)]
      go_simp
      refine (iskey_any xk wd hsx).mono ?_
      rintro e w1 ⟨rfl, hb1⟩
      replace c0 := keep1 hb1 c0
      replace c1 := keep1 hb1 c1
      replace hb0 := hb0.trans (hb1.mono hb0.size)
      clear hb1
      go_wp2_with fail
      refine hK.out _ _ c0 (fun hHeld => ?_)
      clear hK K
      (try simp only [Act.put, List.setIfInBounds_toArray, List.set_cons_zero, List.set_cons_succ])
      cases hkq : keyB xk with
      | false =>
        rw [hkq] at HS
        obtain rfl : R = ((k : Int), 40) := by rw [hE.out, HS.out]; rfl
        clear HS HR hkq
        refine wpAnyH_takeD (i := 3) (d := some 20) (v := ?v102) rfl rfl (by kernel_rfl) (by kernel_rfl) (by kernel_rfl) (fun _ _ _ h => h) (Or.inl ⟨by rfl, ?hy102⟩) hHeld ?rest102
        case hy102 =>
          intro wS hS
          go_simp
          all_goals with_reducible rfl
        (try simp only [Act.put, List.setIfInBounds_toArray, List.set_cons_zero, List.set_cons_succ])
        refine wpAnyH_takeD (i := 4) (d := some 21) (v := ?v103) rfl rfl (by kernel_rfl) (by kernel_rfl) (by kernel_rfl) (fun _ _ _ h => h) (Or.inl ⟨by rfl, ?hy103⟩) hHeld ?rest103
        case hy103 =>
          intro wS hS
          go_simp
          all_goals with_reducible rfl
        (try simp only [Act.put, List.setIfInBounds_toArray, List.set_cons_zero, List.set_cons_succ])
        refine wpAnyH_takeD (i := 5) (d := some 22) (v := undef) rfl rfl (by kernel_rfl) (by kernel_rfl) (by kernel_rfl) (fun _ _ _ h => h) (Or.inr ⟨by rfl, rfl⟩) hHeld ?_
        (try simp only [Act.put, List.setIfInBounds_toArray, List.set_cons_zero, List.set_cons_succ])
        refine wpAnyH_takeD (i := 6) (d := some 23) (v := undef) rfl rfl (by kernel_rfl) (by kernel_rfl) (by kernel_rfl) (fun _ _ _ h => h) (Or.inr ⟨by rfl, rfl⟩) hHeld ?_
        (try simp only [Act.put, List.setIfInBounds_toArray, List.set_cons_zero, List.set_cons_succ])
        refine wpAnyH_takeD (i := 7) (d := some 24) (v := undef) rfl rfl (by kernel_rfl) (by kernel_rfl) (by kernel_rfl) (fun _ _ _ h => h) (Or.inr ⟨by rfl, rfl⟩) hHeld ?_
        (try simp only [Act.put, List.setIfInBounds_toArray, List.set_cons_zero, List.set_cons_succ])
        refine wpAnyH_takeD (i := 8) (d := some 25) (v := undef) rfl rfl (by kernel_rfl) (by kernel_rfl) (by kernel_rfl) (fun _ _ _ h => h) (Or.inr ⟨by rfl, rfl⟩) hHeld ?_
        (try simp only [Act.put, List.setIfInBounds_toArray, List.set_cons_zero, List.set_cons_succ])
        refine wpAnyH_takeD (i := 9) (d := some 26) (v := undef) rfl rfl (by kernel_rfl) (by kernel_rfl) (by kernel_rfl) (fun _ _ _ h => h) (Or.inr ⟨by rfl, rfl⟩) hHeld ?_
        (try simp only [Act.put, List.setIfInBounds_toArray, List.set_cons_zero, List.set_cons_succ])
        refine wpAnyH_takeD (i := 10) (d := some 27) (v := undef) rfl rfl (by kernel_rfl) (by kernel_rfl) (by kernel_rfl) (fun _ _ _ h => h) (Or.inr ⟨by rfl, rfl⟩) hHeld ?_
        (try simp only [Act.put, List.setIfInBounds_toArray, List.set_cons_zero, List.set_cons_succ])
        refine wpAnyH_takeD (i := 11) (d := some 28) (v := undef) rfl rfl (by kernel_rfl) (by kernel_rfl) (by kernel_rfl) (fun _ _ _ h => h) (Or.inr ⟨by rfl, rfl⟩) hHeld ?_
        (try simp only [Act.put, List.setIfInBounds_toArray, List.set_cons_zero, List.set_cons_succ])
        refine wpAnyH_takeD (i := 12) (d := some 29) (v := ?v104) rfl rfl (by kernel_rfl) (by kernel_rfl) (by kernel_rfl) (fun _ _ _ h => h) (Or.inl ⟨by rfl, ?hy104⟩) hHeld ?rest104
        case hy104 =>
          intro wS hS
          go_simp
          all_goals with_reducible rfl
        (try simp only [Act.put, List.setIfInBounds_toArray, List.set_cons_zero, List.set_cons_succ])
        refine wpAnyH_takeD (i := 13) (d := some 16) (v := ?v105) rfl rfl (by kernel_rfl) (by kernel_rfl) (by kernel_rfl) (fun _ _ _ h => h) (Or.inl ⟨by rfl, ?hy105⟩) hHeld ?rest105
        case hy105 =>
          intro wS hS
          go_simp
          all_goals with_reducible rfl
        (try simp only [Act.put, List.setIfInBounds_toArray, List.set_cons_zero, List.set_cons_succ])
        refine wpAnyH_done (by kernel_rfl) ?_ _
        go_wp2_with fail
        go_ret2
        exact ⟨rfl, hb0⟩
      | true =>
        rw [hkq] at HS
        clear hkq
        refine wpAnyH_takeD (i := 3) (d := some 20) (v := ?v106) rfl rfl (by kernel_rfl) (by kernel_rfl) (by kernel_rfl) (fun _ _ _ h => h) (Or.inl ⟨by rfl, ?hy106⟩) hHeld ?rest106
        case hy106 =>
          intro wS hS
          go_simp
          all_goals with_reducible rfl
        (try simp only [Act.put, List.setIfInBounds_toArray, List.set_cons_zero, List.set_cons_succ])
        refine wpAnyH_takeD (i := 4) (d := some 21) (v := ?v107) rfl rfl (by kernel_rfl) (by kernel_rfl) (by kernel_rfl) (fun _ _ _ h => h) (Or.inl ⟨by rfl, ?hy107⟩) hHeld ?rest107
        case hy107 =>
          intro wS hS
          go_simp
          all_goals with_reducible rfl
        (try simp only [Act.put, List.setIfInBounds_toArray, List.set_cons_zero, List.set_cons_succ])
        refine wpAnyH_takeD (i := 5) (d := some 22) (v := ?v108) rfl rfl (by kernel_rfl) (by kernel_rfl) (by kernel_rfl) (fun _ _ _ h => h) (Or.inl ⟨by rfl, ?hy108⟩) hHeld ?rest108
        case hy108 =>
          intro wS hS
          go_simp
          all_goals with_reducible rfl
        (try simp only [Act.put, List.setIfInBounds_toArray, List.set_cons_zero, List.set_cons_succ])
        refine wpAnyH_takeD (i := 6) (d := some 23) (v := ?v109) rfl rfl (by kernel_rfl) (by kernel_rfl) (by kernel_rfl) (fun _ _ _ h => h) (Or.inl ⟨by rfl, ?hy109⟩) hHeld ?rest109
        case hy109 =>
          intro wS hS
          go_simp
          all_goals with_reducible rfl
        (try simp only [Act.put, List.setIfInBounds_toArray, List.set_cons_zero, List.set_cons_succ])
        refine wpAnyH_takeD (i := 7) (d := some 24) (v := (.slice (some a) k c)) rfl rfl (by kernel_rfl) (by kernel_rfl) (by kernel_rfl) (fun _ _ _ h => h) (Or.inl ⟨by rfl, ?hy110⟩) hHeld ?rest110
        case hy110 =>
          intro wS hS
          exact run_sliceop_h _ _ _ rfl _ _ _ (by rfl) (by rfl) (pre_slice (some a) l.length c k hkc wS)
        (try simp only [Act.put, List.setIfInBounds_toArray, List.set_cons_zero, List.set_cons_succ])
        refine wpAnyH_takeD (i := 8) (d := some 25) (v := ?v111) rfl rfl (by kernel_rfl) (by kernel_rfl) (by kernel_rfl) (fun _ _ _ h => h) (Or.inl ⟨by rfl, ?hy111⟩) hHeld ?rest111
        case hy111 =>
          intro wS hS
          go_simp
          all_goals with_reducible rfl
        (try simp only [Act.put, List.setIfInBounds_toArray, List.set_cons_zero, List.set_cons_succ])
        refine wpAnyH_takeD (i := 9) (d := some 26) (v := ?v112) rfl rfl (by kernel_rfl) (by kernel_rfl) (by kernel_rfl) (fun _ _ _ h => h) (Or.inl ⟨by rfl, ?hy112⟩) hHeld ?rest112
        case hy112 =>
          intro wS hS
          go_simp
          all_goals with_reducible rfl
        (try simp only [Act.put, List.setIfInBounds_toArray, List.set_cons_zero, List.set_cons_succ])
        refine wpAnyH_ready (rs := [10]) (by kernel_rfl) (by simp) (AllReadyH.cons rfl (fun K hK => ?_) AllReadyH.nil)
        rw [if_pos (by rfl)]
        go_simp
        refine (like_any xk w1 hsx).mono ?_
        rintro e w2 ⟨rfl, cg, hb2⟩
        replace c0 := keep1 hb2 c0
        replace c1 := keep1 hb2 c1
        replace hb0 := hb0.trans (hb2.mono hb0.size)
        clear hb2
        have hcf := hid (hasLike_any w1.heap.size (foldS xk) (some a) c q w2 cg (HL.out.below hb0) (by omega) (fun y hy => (HB.out y hy).1))
        clear cg
        rw [hlk] at hcf
        generalize q.any (alike (foldS xk)) = v at *
        generalize w1.heap.size = g1 at *
        go_wp2_with fail
        refine hK.out _ _ c0 (fun hHeld => ?_)
        clear hK K
        (try simp only [Act.put, List.setIfInBounds_toArray, List.set_cons_zero, List.set_cons_succ])
        refine wpAnyH_ready (rs := [11]) (by kernel_rfl) (by simp) (AllReadyH.cons rfl (fun K hK => ?_) AllReadyH.nil)
        rw [if_pos (by rfl)]
        go_simp
        refine hcf.out.mono ?_
        rintro e w3 ⟨rfl, hb3⟩
        replace c0 := keep1 hb3 c0
        replace c1 := keep1 hb3 c1
        replace hb0 := hb0.trans (hb3.mono hb0.size)
        clear hb3 hcf
        go_wp2_with fail
        refine hK.out _ _ c0 (fun hHeld => ?_)
        clear hK K
        (try simp only [Act.put, List.setIfInBounds_toArray, List.set_cons_zero, List.set_cons_succ])
        refine wpAnyH_takeD (i := 12) (d := some 29) (v := ?v113) rfl rfl (by kernel_rfl) (by kernel_rfl) (by kernel_rfl) (fun _ _ _ h => h) (Or.inl ⟨by rfl, ?hy113⟩) hHeld ?rest113
        case hy113 =>
          intro wS hS
          go_simp
          all_goals with_reducible rfl
        (try simp only [Act.put, List.setIfInBounds_toArray, List.set_cons_zero, List.set_cons_succ])
        refine wpAnyH_takeD (i := 13) (d := some 16) (v := ?v114) rfl rfl (by kernel_rfl) (by kernel_rfl) (by kernel_rfl) (fun _ _ _ h => h) (Or.inl ⟨by rfl, ?hy114⟩) hHeld ?rest114
        case hy114 =>
          intro wS hS
          go_simp
          all_goals with_reducible rfl
        (try simp only [Act.put, List.setIfInBounds_toArray, List.set_cons_zero, List.set_cons_succ])
        refine wpAnyH_done (by kernel_rfl) ?_ _
        cases v with
        | true =>
          obtain rfl : R = ((k : Int), 40) := by rw [hE.out, HS.out]; rfl
          clear HS HR
          go_wp2_with fail
          go_ret2
          exact ⟨rfl, hb0⟩
        | false =>
          have hiv := hid (isval_any xv w3 hsv (hT.below hb0))
          cases hvq : valB xv with
          | false =>
            rw [hvq] at hiv HS
            obtain rfl : R = ((k : Int), 41) := by rw [hE.out, HS.out]; rfl
            clear HS HR hvq
            go_wp2_with fail
            refine hiv.out.mono ?_
            rintro e w4 ⟨rfl, hb4⟩
            clear hiv
            replace hb0 := hb0.trans (hb4.mono hb0.size)
            go_wp2_with fail
            go_ret2
            exact ⟨rfl, hb0⟩
          | true =>
            rw [hvq] at hiv HS
            have HN := hid (show R = checkR l (l.drop (k + 1)) (k + 1) by rw [hE.out, HS.out]; rfl)
            clear HS hvq
            go_wp2_with fail
            refine hiv.out.mono ?_
            rintro e w4 ⟨rfl, hb4⟩
            clear hiv
            replace hb0 := hb0.trans (hb4.mono hb0.size)
            go_wp2_with fail
            go_roundw
            case rel => exact ⟨k + 1, by omega, by go_num, hb0, HN⟩
            case measure => simp [intOf]; omega
    · obtain rfl : k = l.length := by omega
      have dk : decide ((l.length : Int) < (l.length : Int)) = false := decide_eq_false (by omega)
      obtain rfl : R = (0, 0) := by rw [hE.out, List.drop_length]; rfl
      clear HR
      go_wp2_with fail
      go_ret2
      exact ⟨rfl, hbr⟩
set_option maxRecDepth 20000 in
set_option maxHeartbeats 4000000 in
theorem rcheck_any (A : Option Addr) (c : Nat) (l : List TagV) (w : World) (hl : SeesT w A l) (hlc : l.length ≤ c) (hlen : l.length ≤ maxLen) (hs : Brief l) :
    Calls Tryz.prog 40 #[.slice A l.length c] w fun e w' => e = .returned (.tuple #[.int .i64 (checkT l).1, .int .i64 (checkT l).2]) ∧ Below w.heap.size w w' := by
  unfold maxLen at hlen
  obtain ⟨R, hR⟩ : ∃ R, R = checkT l := ⟨_, rfl⟩
  rw [← hR]
  by_cases h64 : 64 < l.length
  · have d1 : decide (64 < (l.length : Int)) = true := decide_eq_true (by omega)
    obtain rfl : R = (0, 4) := by rw [hR]; unfold checkT; rw [if_pos h64]
    clear hR
    go_enter Tryz.func40, Tryz.ntmps40
    go_wp2_with fail
    go_ret2
    exact ⟨rfl, Below.refl _ _⟩
  have d1 : decide (64 < (l.length : Int)) = false := decide_eq_false (by omega)
  have HR := hid (show R = checkR l l 0 by rw [hR]; unfold checkT; rw [if_neg h64])
  clear hR
  go_enter Tryz.func40, Tryz.ntmps40
  go_wp2_with fail
  go_loopw [4] (fun i wr => ∃ k : Nat, k ≤ l.length ∧ i = .int .i64 (k : Int) ∧ Below w.heap.size w wr ∧ Hid (R = checkR l (l.drop k) k)) (fun i _ => l.length - (intOf i).toNat)
  case atStart => exact ⟨0, by omega, rfl, Below.refl _ _, hid HR.out⟩
  case round =>
    obtain ⟨k, hk, rfl, hbr, hE⟩ := hrel
    by_cases hlt : k < l.length
    · have dk : decide ((k : Int) < (l.length : Int)) = true := decide_eq_true (by omega)
      have dkl : (k : Int) < (l.length : Int) := by omega
      obtain ⟨ck, hck⟩ : ∃ ck, ck = c := ⟨_, rfl⟩
      have hkc : k ≤ c := by omega
      have HL := hid (hl.take k)
      obtain ⟨a, rfl, x1, x2⟩ := (hl.below hbr).at hlt
      have HS := hid (show checkR l (l.drop k) k = if badAt l l[k].k k = true then ((k : Int), 40) else if valB l[k].v = false then ((k : Int), 41) else checkR l (l.drop (k + 1)) (k + 1) by rw [List.drop_eq_getElem_cons hlt]; rfl)
      obtain ⟨hsx, hsv⟩ := hs l[k] (List.getElem_mem hlt)
      have HB := hid (hs.take k)
      have hlk : (l.take k).length = k := by rw [List.length_take]; omega
      generalize l[k] = x at *
      obtain ⟨xk, xv⟩ := x
      simp only at x1 x2 HS hsx hsv
      unfold badAt at HS
      obtain ⟨q, hq⟩ : ∃ q, q = l.take k := ⟨_, rfl⟩
      rw [← hq] at HL HB hlk HS
      clear hq hck ck
      go_wp2_with fail
      refine wp_region_held_drew (S := fun W => W.cell? (a.add (k * 2)) = some (.string xk)) (by kernel_rfl) x1 (fun hHeld => ?_)
      replace x1 : wr.drew.cell? (a.add (k * 2)) = some (.string xk) := x1
      replace x2 : wr.drew.cell? { block := (a.add (k * 2)).block, off := (a.add (k * 2)).off + 1 } = some (.string xv) := x2
      replace hbr : Below w.heap.size w wr.drew := hbr.drew
      generalize wr.drew = wd at *
      refine wpAnyH_takeD (i := 0) (d := some 14) (v := ?v115) rfl rfl (by kernel_rfl) (by kernel_rfl) (by kernel_rfl) (fun _ _ _ h => h) (Or.inl ⟨by rfl, ?hy115⟩) hHeld ?rest115
      case hy115 =>
        intro wS hS
        go_simp
        all_goals with_reducible rfl
      (try simp only [Act.put, List.setIfInBounds_toArray, List.set_cons_zero, List.set_cons_succ])
      refine wpAnyH_takeD (i := 1) (d := some 15) (v := ?v116) rfl rfl (by kernel_rfl) (by kernel_rfl) (by kernel_rfl) (fun _ _ _ h => h) (Or.inl ⟨by rfl, ?hy116⟩) hHeld ?rest116
      case hy116 =>
        intro wS hS
        go_simp
        all_goals with_reducible rfl
      (try simp only [Act.put, List.setIfInBounds_toArray, List.set_cons_zero, List.set_cons_succ])
      refine wpAnyH_takeD (i := 2) (d := some 16) (v := ?v117) rfl rfl (by kernel_rfl) (by kernel_rfl) (by kernel_rfl) (fun _ _ _ h => h) (Or.inl ⟨by rfl, ?hy117⟩) hHeld ?rest117
      case hy117 =>
        intro wS hS
        go_simp
        all_goals with_reducible rfl
      (try simp only [Act.put, List.setIfInBounds_toArray, List.set_cons_zero, List.set_cons_succ])
      refine wpAnyH_takeD (i := 3) (d := some 17) (v := ?v118) rfl rfl (by kernel_rfl) (by kernel_rfl) (by kernel_rfl) (fun _ _ _ h => h) (Or.inl ⟨by rfl, ?hy118⟩) hHeld ?rest118
      case hy118 =>
        intro wS hS
        go_simp
        all_goals with_reducible rfl
      (try simp only [Act.put, List.setIfInBounds_toArray, List.set_cons_zero, List.set_cons_succ])
      refine wpAnyH_takeD (i := 4) (d := some 18) (v := ?v119) rfl rfl (by kernel_rfl) (by kernel_rfl) (by kernel_rfl) (fun _ _ _ h => h) (Or.inl ⟨by rfl, ?hy119⟩) hHeld ?rest119
      case hy119 =>
        intro wS hS
        go_simp
        all_goals with_reducible rfl
      (try simp only [Act.put, List.setIfInBounds_toArray, List.set_cons_zero, List.set_cons_succ])
      refine wpAnyH_ready (rs := [5]) (by kernel_rfl) (by simp) (AllReadyH.cons rfl (fun K hK => ?_) AllReadyH.nil)
      rw [if_pos (by rfl)]
      go_simp
      refine (rkey_any xk wd hsx).mono ?_
      rintro e w1 ⟨rfl, rfl⟩
      go_wp2_with fail
      refine hK.out _ _ x1 (fun hHeld => ?_)
      clear hK K
      (try simp only [Act.put, List.setIfInBounds_toArray, List.set_cons_zero, List.set_cons_succ])
      cases hkq : keyB xk with
      | false =>
        rw [hkq] at HS
        obtain rfl : R = ((k : Int), 40) := by rw [hE.out, HS.out]; rfl
        clear HS HR hkq
        refine wpAnyH_takeD (i := 6) (d := some 20) (v := ?v120) rfl rfl (by kernel_rfl) (by kernel_rfl) (by kernel_rfl) (fun _ _ _ h => h) (Or.inl ⟨by rfl, ?hy120⟩) hHeld ?rest120
        case hy120 =>
          intro wS hS
          go_simp
          all_goals with_reducible rfl
        (try simp only [Act.put, List.setIfInBounds_toArray, List.set_cons_zero, List.set_cons_succ])
        refine wpAnyH_takeD (i := 7) (d := some 21) (v := ?v121) rfl rfl (by kernel_rfl) (by kernel_rfl) (by kernel_rfl) (fun _ _ _ h => h) (Or.inl ⟨by rfl, ?hy121⟩) hHeld ?rest121
        case hy121 =>
          intro wS hS
          go_simp
          all_goals with_reducible rfl
        (try simp only [Act.put, List.setIfInBounds_toArray, List.set_cons_zero, List.set_cons_succ])
        refine wpAnyH_takeD (i := 8) (d := some 22) (v := undef) rfl rfl (by kernel_rfl) (by kernel_rfl) (by kernel_rfl) (fun _ _ _ h => h) (Or.inr ⟨by rfl, rfl⟩) hHeld ?_
        (try simp only [Act.put, List.setIfInBounds_toArray, List.set_cons_zero, List.set_cons_succ])
        refine wpAnyH_takeD (i := 9) (d := some 23) (v := undef) rfl rfl (by kernel_rfl) (by kernel_rfl) (by kernel_rfl) (fun _ _ _ h => h) (Or.inr ⟨by rfl, rfl⟩) hHeld ?_
        (try simp only [Act.put, List.setIfInBounds_toArray, List.set_cons_zero, List.set_cons_succ])
        refine wpAnyH_takeD (i := 10) (d := some 24) (v := undef) rfl rfl (by kernel_rfl) (by kernel_rfl) (by kernel_rfl) (fun _ _ _ h => h) (Or.inr ⟨by rfl, rfl⟩) hHeld ?_
        (try simp only [Act.put, List.setIfInBounds_toArray, List.set_cons_zero, List.set_cons_succ])
        refine wpAnyH_takeD (i := 11) (d := some 25) (v := undef) rfl rfl (by kernel_rfl) (by kernel_rfl) (by kernel_rfl) (fun _ _ _ h => h) (Or.inr ⟨by rfl, rfl⟩) hHeld ?_
        (try simp only [Act.put, List.setIfInBounds_toArray, List.set_cons_zero, List.set_cons_succ])
        refine wpAnyH_takeD (i := 12) (d := some 26) (v := undef) rfl rfl (by kernel_rfl) (by kernel_rfl) (by kernel_rfl) (fun _ _ _ h => h) (Or.inr ⟨by rfl, rfl⟩) hHeld ?_
        (try simp only [Act.put, List.setIfInBounds_toArray, List.set_cons_zero, List.set_cons_succ])
        refine wpAnyH_takeD (i := 13) (d := some 27) (v := undef) rfl rfl (by kernel_rfl) (by kernel_rfl) (by kernel_rfl) (fun _ _ _ h => h) (Or.inr ⟨by rfl, rfl⟩) hHeld ?_
        (try simp only [Act.put, List.setIfInBounds_toArray, List.set_cons_zero, List.set_cons_succ])
        refine wpAnyH_takeD (i := 14) (d := some 28) (v := undef) rfl rfl (by kernel_rfl) (by kernel_rfl) (by kernel_rfl) (fun _ _ _ h => h) (Or.inr ⟨by rfl, rfl⟩) hHeld ?_
        (try simp only [Act.put, List.setIfInBounds_toArray, List.set_cons_zero, List.set_cons_succ])
        refine wpAnyH_takeD (i := 15) (d := some 29) (v := undef) rfl rfl (by kernel_rfl) (by kernel_rfl) (by kernel_rfl) (fun _ _ _ h => h) (Or.inr ⟨by rfl, rfl⟩) hHeld ?_
        (try simp only [Act.put, List.setIfInBounds_toArray, List.set_cons_zero, List.set_cons_succ])
        refine wpAnyH_takeD (i := 16) (d := some 30) (v := undef) rfl rfl (by kernel_rfl) (by kernel_rfl) (by kernel_rfl) (fun _ _ _ h => h) (Or.inr ⟨by rfl, rfl⟩) hHeld ?_
        (try simp only [Act.put, List.setIfInBounds_toArray, List.set_cons_zero, List.set_cons_succ])
        refine wpAnyH_takeD (i := 17) (d := some 31) (v := undef) rfl rfl (by kernel_rfl) (by kernel_rfl) (by kernel_rfl) (fun _ _ _ h => h) (Or.inr ⟨by rfl, rfl⟩) hHeld ?_
        (try simp only [Act.put, List.setIfInBounds_toArray, List.set_cons_zero, List.set_cons_succ])
        refine wpAnyH_takeD (i := 18) (d := some 32) (v := ?v122) rfl rfl (by kernel_rfl) (by kernel_rfl) (by kernel_rfl) (fun _ _ _ h => h) (Or.inl ⟨by rfl, ?hy122⟩) hHeld ?rest122
        case hy122 =>
          intro wS hS
          go_simp
          all_goals with_reducible rfl
        (try simp only [Act.put, List.setIfInBounds_toArray, List.set_cons_zero, List.set_cons_succ])
        refine wpAnyH_done (by kernel_rfl) ?_ _
        go_wp2_with fail
        go_ret2
        exact ⟨rfl, hbr⟩
      | true =>
        rw [hkq] at HS
        clear hkq
        refine wpAnyH_takeD (i := 6) (d := some 20) (v := ?v123) rfl rfl (by kernel_rfl) (by kernel_rfl) (by kernel_rfl) (fun _ _ _ h => h) (Or.inl ⟨by rfl, ?hy123⟩) hHeld ?rest123
        case hy123 =>
          intro wS hS
          go_simp
          all_goals with_reducible rfl
        (try simp only [Act.put, List.setIfInBounds_toArray, List.set_cons_zero, List.set_cons_succ])
        refine wpAnyH_takeD (i := 7) (d := some 21) (v := ?v124) rfl rfl (by kernel_rfl) (by kernel_rfl) (by kernel_rfl) (fun _ _ _ h => h) (Or.inl ⟨by rfl, ?hy124⟩) hHeld ?rest124
        case hy124 =>
          intro wS hS
          go_simp
          all_goals with_reducible rfl
        (try simp only [Act.put, List.setIfInBounds_toArray, List.set_cons_zero, List.set_cons_succ])
        refine wpAnyH_takeD (i := 8) (d := some 22) (v := ?v125) rfl rfl (by kernel_rfl) (by kernel_rfl) (by kernel_rfl) (fun _ _ _ h => h) (Or.inl ⟨by rfl, ?hy125⟩) hHeld ?rest125
        case hy125 =>
          intro wS hS
          go_simp
          all_goals with_reducible rfl
        (try simp only [Act.put, List.setIfInBounds_toArray, List.set_cons_zero, List.set_cons_succ])
        refine wpAnyH_takeD (i := 9) (d := some 23) (v := ?v126) rfl rfl (by kernel_rfl) (by kernel_rfl) (by kernel_rfl) (fun _ _ _ h => h) (Or.inl ⟨by rfl, ?hy126⟩) hHeld ?rest126
        case hy126 =>
          intro wS hS
          go_simp
          all_goals with_reducible rfl
        (try simp only [Act.put, List.setIfInBounds_toArray, List.set_cons_zero, List.set_cons_succ])
        refine wpAnyH_takeD (i := 10) (d := some 24) (v := (.slice (some a) k c)) rfl rfl (by kernel_rfl) (by kernel_rfl) (by kernel_rfl) (fun _ _ _ h => h) (Or.inl ⟨by rfl, ?hy127⟩) hHeld ?rest127
        case hy127 =>
          intro wS hS
          exact run_sliceop_h _ _ _ rfl _ _ _ (by rfl) (by rfl) (pre_slice (some a) l.length c k hkc wS)
        (try simp only [Act.put, List.setIfInBounds_toArray, List.set_cons_zero, List.set_cons_succ])
        refine wpAnyH_takeD (i := 11) (d := some 25) (v := ?v128) rfl rfl (by kernel_rfl) (by kernel_rfl) (by kernel_rfl) (fun _ _ _ h => h) (Or.inl ⟨by rfl, ?hy128⟩) hHeld ?rest128
        case hy128 =>
          intro wS hS
          go_simp
          all_goals with_reducible rfl
        (try simp only [Act.put, List.setIfInBounds_toArray, List.set_cons_zero, List.set_cons_succ])
        refine wpAnyH_takeD (i := 12) (d := some 26) (v := ?v129) rfl rfl (by kernel_rfl) (by kernel_rfl) (by kernel_rfl) (fun _ _ _ h => h) (Or.inl ⟨by rfl, ?hy129⟩) hHeld ?rest129
        case hy129 =>
          intro wS hS
          go_simp
          all_goals with_reducible rfl
        (try simp only [Act.put, List.setIfInBounds_toArray, List.set_cons_zero, List.set_cons_succ])
        refine wpAnyH_takeD (i := 13) (d := some 27) (v := ?v130) rfl rfl (by kernel_rfl) (by kernel_rfl) (by kernel_rfl) (fun _ _ _ h => h) (Or.inl ⟨by rfl, ?hy130⟩) hHeld ?rest130
        case hy130 =>
          intro wS hS
          go_simp
          all_goals with_reducible rfl
        (try simp only [Act.put, List.setIfInBounds_toArray, List.set_cons_zero, List.set_cons_succ])
        refine wpAnyH_takeD (i := 14) (d := some 28) (v := ?v131) rfl rfl (by kernel_rfl) (by kernel_rfl) (by kernel_rfl) (fun _ _ _ h => h) (Or.inl ⟨by rfl, ?hy131⟩) hHeld ?rest131
        case hy131 =>
          intro wS hS
          go_simp
          all_goals with_reducible rfl
        (try simp only [Act.put, List.setIfInBounds_toArray, List.set_cons_zero, List.set_cons_succ])
        refine wpAnyH_takeD (i := 15) (d := some 29) (v := ?v132) rfl rfl (by kernel_rfl) (by kernel_rfl) (by kernel_rfl) (fun _ _ _ h => h) (Or.inl ⟨by rfl, ?hy132⟩) hHeld ?rest132
        case hy132 =>
          intro wS hS
          go_simp
          all_goals with_reducible rfl
        (try simp only [Act.put, List.setIfInBounds_toArray, List.set_cons_zero, List.set_cons_succ])
        have hcf := hid (rat_any (some a) c q xk wd (HL.out.below hbr) (by omega) (fun y hy => (HB.out y hy).1) hsx)
        have hv := idxFrom_any (alike (foldS xk)) q 0 (by omega)
        rw [hlk] at hcf
        generalize idxFrom (alike (foldS xk)) q 0 = r at *
        generalize q.any (alike (foldS xk)) = v at *
        refine wpAnyH_ready (rs := [16]) (by kernel_rfl) (by simp) (AllReadyH.cons rfl (fun K hK => ?_) AllReadyH.nil)
        rw [if_pos (by rfl)]
        go_simp
        refine hcf.out.mono ?_
        rintro e w3 ⟨rfl, hb3⟩
        replace x1 := keep1 hb3 x1
        replace x2 := keep1 hb3 x2
        replace hbr := hbr.trans (hb3.mono hbr.size)
        clear hb3 hcf
        go_wp2_with fail
        refine hK.out _ _ x1 (fun hHeld => ?_)
        clear hK K
        (try simp only [Act.put, List.setIfInBounds_toArray, List.set_cons_zero, List.set_cons_succ])
        cases v with
        | true =>
          obtain rfl : R = ((k : Int), 40) := by rw [hE.out, HS.out]; rfl
          clear HS HR
          refine wpAnyH_takeD (i := 17) (d := some 31) (v := ?v133) rfl rfl (by kernel_rfl) (by kernel_rfl) (by kernel_rfl) (fun _ _ _ h => h) (Or.inl ⟨by rfl, ?hy133⟩) hHeld ?rest133
          case hy133 =>
            intro wS hS
            go_simp
            all_goals with_reducible rfl
          (try simp only [Act.put, List.setIfInBounds_toArray, List.set_cons_zero, List.set_cons_succ])
          refine wpAnyH_takeD (i := 18) (d := some 32) (v := ?v134) rfl rfl (by kernel_rfl) (by kernel_rfl) (by kernel_rfl) (fun _ _ _ h => h) (Or.inl ⟨by rfl, ?hy134⟩) hHeld ?rest134
          case hy134 =>
            intro wS hS
            go_simp
            all_goals with_reducible rfl
          (try simp only [Act.put, List.setIfInBounds_toArray, List.set_cons_zero, List.set_cons_succ])
          refine wpAnyH_done (by kernel_rfl) ?_ _
          go_wp2_with fail
          go_ret2
          exact ⟨rfl, hbr⟩
        | false =>
          refine wpAnyH_takeD (i := 17) (d := some 31) (v := ?v135) rfl rfl (by kernel_rfl) (by kernel_rfl) (by kernel_rfl) (fun _ _ _ h => h) (Or.inl ⟨by rfl, ?hy135⟩) hHeld ?rest135
          case hy135 =>
            intro wS hS
            go_simp
            all_goals with_reducible rfl
          (try simp only [Act.put, List.setIfInBounds_toArray, List.set_cons_zero, List.set_cons_succ])
          refine wpAnyH_takeD (i := 18) (d := some 32) (v := ?v136) rfl rfl (by kernel_rfl) (by kernel_rfl) (by kernel_rfl) (fun _ _ _ h => h) (Or.inl ⟨by rfl, ?hy136⟩) hHeld ?rest136
          case hy136 =>
            intro wS hS
            go_simp
            all_goals with_reducible rfl
          (try simp only [Act.put, List.setIfInBounds_toArray, List.set_cons_zero, List.set_cons_succ])
          refine wpAnyH_done (by kernel_rfl) ?_ _
          have hiv := hid (rval_any xv w3 hsv)
          cases hvq : valB xv with
          | false =>
            rw [hvq] at hiv HS
            obtain rfl : R = ((k : Int), 41) := by rw [hE.out, HS.out]; rfl
            clear HS HR hvq
            go_wp2_with fail
            refine hiv.out.mono ?_
            rintro e w4 ⟨rfl, rfl⟩
            clear hiv
            go_wp2_with fail
            go_ret2
            exact ⟨rfl, hbr⟩
          | true =>
            rw [hvq] at hiv HS
            have HN := hid (show R = checkR l (l.drop (k + 1)) (k + 1) by rw [hE.out, HS.out]; rfl)
            clear HS hvq
            go_wp2_with fail
            refine hiv.out.mono ?_
            rintro e w4 ⟨rfl, rfl⟩
            clear hiv
            go_wp2_with fail
            exact ⟨⟨k + 1, by omega, by go_num, hbr, HN⟩, by simp [intOf]; omega⟩
    · obtain rfl : k = l.length := by omega
      have dk : decide ((l.length : Int) < (l.length : Int)) = false := decide_eq_false (by omega)
      obtain rfl : R = (0, 0) := by rw [hE.out, List.drop_length]; rfl
      clear HR
      go_wp2_with fail
      go_ret2
      exact ⟨rfl, hbr⟩
end Go.Proofs.YtkmhmehofipehaaGreatDoor
/- What Check lets through. -/
namespace Go.Proofs.YtkmhmehofipehaaGreatDoor
set_option linter.unusedVariables false
end Go.Proofs.YtkmhmehofipehaaGreatDoor
/- The maker: U, whole. -/
namespace Go.Proofs.YtkmhmehofipehaaGreatDoor
set_option linter.unusedVariables false
open Go.RowKit
theorem mk_new (w : World) : Mk (w.alloc (.cells #[.int .i64 0, .slice none 0 0] 116)) w.heap.size (fun b => b = w.heap.size) 0 [] :=
  ⟨none, 0, heap_alloc_new _ _, own_nil _ _ _ _, rfl, fun a ha => (by cases ha), fun b hb => by subst hb; simp⟩
theorem makerU_any (g : Nat) (R : Nat → Prop) (err : Int) (l : List UInt8) (v : Nat) (n : Int) (w : World) (hm : Mk w g R err l) (hv : v < 18446744073709551616) (hl : l.length ≤ 140737488355000) :
    Calls Tryz.prog 50 #[.pointer (some ⟨g, 0, none⟩), .int .u64 (v : Int), .int .i64 n] w (MkPost w g R (putU (err, l) v n)) := by
  by_cases hbad : err ≠ 0 ∨ n < 1 ∨ 8 < n ∨ (n < 8 ∧ 256 ^ n.toNat ≤ v)
  · exact makerU_bad g R err l v n w hm hv hbad
  · obtain ⟨N, rfl⟩ := Int.eq_ofNat_of_zero_le (show 0 ≤ n by omega)
    obtain rfl : err = 0 := by omega
    have hp : putU (0, l) v (N : Int) = (0, l ++ bytesLE v N) := by
      rw [putU, if_neg (by simp), if_neg (by omega), if_neg (fun h => hbad (.inr (.inr (.inr h))))]; rfl
    rw [hp]
    refine makerU_ok g R l v N w hm hv (by omega) ?_ hl
    by_cases h8 : N = 8
    · exact .inl h8
    · right
      rcases Nat.lt_or_ge v (256 ^ N) with h | h
      · exact h
      · exact absurd (.inr (.inr (.inr ⟨by omega, by simpa using h⟩))) hbad
end Go.Proofs.YtkmhmehofipehaaGreatDoor
/- The maker: Text (where there is no I). -/
namespace Go.Proofs.YtkmhmehofipehaaGreatDoor
set_option linter.unusedVariables false
open Go.RowKit
end Go.Proofs.YtkmhmehofipehaaGreatDoor
/- A number laid that fits; bytes with their sum. -/
namespace Go.Proofs.YtkmhmehofipehaaGreatDoor
set_option linter.unusedVariables false
open Go.RowKit
def sealed (l : List UInt8) : List UInt8 := l ++ bytesLE (sumI l).toNat 4
theorem putU_ok (l : List UInt8) (v n : Nat) (h : 1 ≤ n ∧ n ≤ 8) (hv : v < 256 ^ n) : putU (0, l) v (n : Int) = (0, l ++ bytesLE v n) := by
  rw [putU, if_neg (by simp), if_neg (by omega), if_neg]
  · rfl
  · rintro ⟨_, h3⟩
    rw [Int.toNat_natCast] at h3
    omega
theorem NewB.lower {w w1 w2 : World} {l : List UInt8} {v : Value} (h : NewB w1 l v w2) (hb : Below w.heap.size w w1) : NewB w l v w2 := by
  obtain ⟨A, c, hv, ho, h2⟩ := h
  exact ⟨A, c, hv, Joins.ownsRow_le ho hb.size, hb.trans (h2.mono hb.size)⟩
def PutPost (w : World) (l : List UInt8) (e : Ending) (w' : World) : Prop := ∃ v, e = .returned (.tuple #[v, .int .i64 0]) ∧ NewB w l v w'
end Go.Proofs.YtkmhmehofipehaaGreatDoor
/- Tags as bytes, plainly. -/
namespace Go.Proofs.YtkmhmehofipehaaGreatDoor
set_option linter.unusedVariables false
open Go.RowKit
def oneB (x : TagV) : List UInt8 := bytesLE x.k.data.toList.length 1 ++ (x.k.data.toList ++ (bytesLE x.v.data.toList.length 2 ++ x.v.data.toList))
def itemsB : List TagV → List UInt8
  | [] => []
  | x :: r => oneB x ++ itemsB r
def headB (l : List TagV) : List UInt8 := [84, 71, UInt8.ofNat l.length]
def tagsB (l : List TagV) : List UInt8 := headB l ++ itemsB l
end Go.Proofs.YtkmhmehofipehaaGreatDoor
/- Tags as bytes: the program's Put. -/
namespace Go.Proofs.YtkmhmehofipehaaGreatDoor
set_option linter.unusedVariables false
open Go.RowKit
end Go.Proofs.YtkmhmehofipehaaGreatDoor
/- Info as bytes. -/
namespace Go.Proofs.YtkmhmehofipehaaGreatDoor
set_option linter.unusedVariables false
open Go.RowKit
/-- the bytes of info ahead of their sum -/
def infoHead (k ch bi sh ra bl : Nat) : List UInt8 := [68, 83, 67, 49] ++ bytesLE k 1 ++ bytesLE ch 1 ++ bytesLE bi 1 ++ bytesLE sh 1 ++ bytesLE ra 3 ++ bytesLE bl 4
/-- the four small numbers -/
def four (k ch bi sh : Nat) (i : Nat) : List UInt8 := [68, 83, 67, 49] ++ ((([k, ch, bi, sh] : List Nat).take i).flatMap fun x => bytesLE x 1)
set_option maxHeartbeats 4000000 in
theorem iput_ok (g : Nat) (k ch bi ra bl sh : Nat) (w : World) (ht : Tab w g) (hr : rightI k ch bi ra bl sh = true) (hk : k < 256 ∧ ch < 256 ∧ bi < 256 ∧ sh < 256 ∧ ra < 16777216 ∧ bl < 4294967296) :
    Calls Tryz.prog 45 #[.pointer (some ⟨g, 0, none⟩), .agg #[.int .i64 k, .int .i64 ch, .int .i64 bi, .int .i64 ra, .int .i64 bl, .int .i64 sh]] w (PutPost w (sealed (infoHead k ch bi sh ra bl))) := by
  obtain ⟨k1, k2, k3, k4, k5, k6⟩ := hk
  have hb : Below w.heap.size w (w.alloc (.cells #[.int .i64 k, .int .i64 ch, .int .i64 bi, .int .i64 ra, .int .i64 bl, .int .i64 sh] 27)) := (Below.refl _ w).alloc (Nat.le_refl _) _
  have hrow := heap_alloc_new w (.cells #[.int .i64 k, .int .i64 ch, .int .i64 bi, .int .i64 ra, .int .i64 bl, .int .i64 sh] 27)
  have htg := ht.lt
  go_enter Tryz.func45, Tryz.ntmps45
  go_wp2_with fail
  generalize hw0 : w.alloc (.cells #[.int .i64 k, .int .i64 ch, .int .i64 bi, .int .i64 ra, .int .i64 bl, .int .i64 sh] 27) = w0 at *
  have hlt0 : w.heap.size < w0.heap.size := (Array.getElem?_eq_some_iff.1 hrow).1
  clear hw0
  refine (iright_any k ch bi ra bl sh _).mono ?_
  rintro e w1 ⟨rfl, hb1⟩
  rw [hr]
  have hrow1 := (hb1.block w.heap.size hlt0).trans hrow
  have hlt1 : w.heap.size < w1.heap.size := Nat.lt_of_lt_of_le hlt0 hb1.size
  have hbw1 := hb.trans (hb1.mono hb.size)
  clear hb hb1 hrow hr
  have hm := mk_new w1
  have hb2 : Below w1.heap.size w1 (w1.alloc (.cells #[.int .i64 0, .slice none 0 0] 116)) := (Below.refl _ w1).alloc (Nat.le_refl _) _
  have hrow2 := (hb2.block w.heap.size hlt1).trans hrow1
  have hlt2 : w.heap.size < (w1.alloc (.cells #[.int .i64 0, .slice none 0 0] 116)).heap.size := Nat.lt_of_lt_of_le hlt1 hb2.size
  have hbw2 := hbw1.trans (hb2.mono hbw1.size)
  have hsz2 : (w1.alloc (.cells #[.int .i64 0, .slice none 0 0] 116)).heap.size = w1.heap.size + 1 := by simp
  have hcv := Joins.run_convert_bytes_const_at (P := Tryz.prog) (w1.alloc (.cells #[.int .i64 0, .slice none 0 0] 116)) 22 5 #[.int .u8 68, .int .u8 83, .int .u8 67, .int .u8 49] 4 4 (w1.heap.size + 1) (by simp) Tryz.underlying22 Tryz.underlying5
  go_wp2_with fail
  clear hcv
  generalize w1.alloc (.cells #[.int .i64 0, .slice none 0 0] 116) = w2 at *
  have hb3 : Below w2.heap.size w2 (w2.alloc (.cells #[.int .u8 68, .int .u8 83, .int .u8 67, .int .u8 49] 5 (4, 5))) := (Below.refl _ w2).alloc (Nat.le_refl _) _
  have hs3 : SeesB (w2.alloc (.cells #[.int .u8 68, .int .u8 83, .int .u8 67, .int .u8 49] 5 (4, 5))) (some ⟨w1.heap.size + 1, 0, none⟩) [68, 83, 67, 49] := by
    rw [← hsz2]
    exact Sees.of_block (heap_alloc_new w2 _) rfl
  have hm3 := hm.below hb3
  have hrow3 := (hb3.block w.heap.size hlt2).trans hrow2
  have hlt3 := Nat.lt_of_lt_of_le hlt2 hb3.size
  have hbw3 := hbw2.trans (hb3.mono hbw2.size)
  clear hm hrow2 hrow1 hb2 hb3 hbw2
  generalize w2.alloc (.cells #[.int .u8 68, .int .u8 83, .int .u8 67, .int .u8 49] 5 (4, 5)) = w3 at *
  refine (raw_any w1.heap.size _ 0 [] _ 4 [68, 83, 67, 49] w3 hm3 hs3 (by decide)).mono ?_
  rintro e w4 ⟨rfl, R4, hm4, hB4, hR4⟩
  rw [show putRaw (0, []) [68, 83, 67, 49] = (0, [68, 83, 67, 49]) from rfl] at hm4
  have hR4' : ∀ b, R4 b → w1.heap.size ≤ b := fun b h => by
    rcases hR4 b h with h | h
    · exact Nat.le_of_eq h.symm
    · have := hm3.lt; omega
  have hbw4 := But.below hbw3 hB4 (fun n h => by have := hbw1.size; omega) hbw3.size
  have hrow4 := (hB4.block w.heap.size hlt3 (fun h => by omega)).trans hrow3
  have hlt4 := Nat.lt_of_lt_of_le hlt3 hB4.size
  clear hm3 hs3 hB4 hR4 hrow3 hbw3
  have c0 : w4.cell? ⟨w.heap.size, 0, none⟩ = some (.int .i64 (k : Int)) := by rw [cell_of_row _ _ _ _ _ _ hrow4]; rfl
  have c1 : w4.cell? ⟨w.heap.size, 1, none⟩ = some (.int .i64 (ch : Int)) := by rw [cell_of_row _ _ _ _ _ _ hrow4]; rfl
  have c2 : w4.cell? ⟨w.heap.size, 2, none⟩ = some (.int .i64 (bi : Int)) := by rw [cell_of_row _ _ _ _ _ _ hrow4]; rfl
  have c5 : w4.cell? ⟨w.heap.size, 5, none⟩ = some (.int .i64 (sh : Int)) := by rw [cell_of_row _ _ _ _ _ _ hrow4]; rfl
  go_wp2_with fail
  go_loopw [8, 35] (fun x i wr => ∃ n : Nat, n ≤ 4 ∧ i = .int .i64 n ∧ ∃ R, Mk wr w1.heap.size R 0 (four k ch bi sh n) ∧ (∀ b, R b → w1.heap.size ≤ b) ∧ Below w.heap.size w wr ∧ wr.heap[w.heap.size]? = some (.cells #[.int .i64 k, .int .i64 ch, .int .i64 bi, .int .i64 ra, .int .i64 bl, .int .i64 sh] 27 (0, 0))) (fun _ i _ => 4 - (intOf i).toNat)
  case atStart => exact ⟨0, by omega, rfl, R4, hm4, hR4', hbw4, hrow4⟩
  case round =>
    obtain ⟨n, hn, rfl, R, hm5, hR5, hbw5, hrow5⟩ := hrel
    have i0 : ∀ w, (Instr.index 123 (.agg #[.int .i64 k, .int .i64 ch, .int .i64 bi, .int .i64 sh]) (.int .i64 0)).run Tryz.prog w = .ok (.int .i64 k) w := fun _ => by kernel_rfl
    have i1 : ∀ w, (Instr.index 123 (.agg #[.int .i64 k, .int .i64 ch, .int .i64 bi, .int .i64 sh]) (.int .i64 1)).run Tryz.prog w = .ok (.int .i64 ch) w := fun _ => by kernel_rfl
    have i2 : ∀ w, (Instr.index 123 (.agg #[.int .i64 k, .int .i64 ch, .int .i64 bi, .int .i64 sh]) (.int .i64 2)).run Tryz.prog w = .ok (.int .i64 bi) w := fun _ => by kernel_rfl
    have i3 : ∀ w, (Instr.index 123 (.agg #[.int .i64 k, .int .i64 ch, .int .i64 bi, .int .i64 sh]) (.int .i64 3)).run Tryz.prog w = .ok (.int .i64 sh) w := fun _ => by kernel_rfl
    have hlt5 : w.heap.size < wr.heap.size := (Array.getElem?_eq_some_iff.1 hrow5).1
    have hlw5 : w1.heap.size < wr.heap.size := hm5.lt
    clear c0 c1 c2 c5
    by_cases hlt : n < 4
    · have hcase : n = 0 ∨ n = 1 ∨ n = 2 ∨ n = 3 := by omega
      rcases hcase with hh | hh | hh | hh
      · subst hh
        have hp : putU (0, four k ch bi sh 0) k 1 = (0, four k ch bi sh 1) := putU_ok _ k 1 (by omega) (by omega)
        have hst := hid (makerU_any w1.heap.size R 0 (four k ch bi sh 0) k 1 wr hm5 (by omega) (by simp [four]))
        rw [hp] at hst
        clear hp
        go_wp2_with fail
        refine hst.out.mono ?_
        rintro e w6 ⟨rfl, R6, hm6, hB6, hR6⟩
        have hbw6 := But.below hbw5 hB6 (fun b h => by have := hR5 b h; have := hbw1.size; omega) hbw5.size
        have hrow6 := (hB6.block w.heap.size hlt5 (fun h => by have := hR5 _ h; omega)).trans hrow5
        have hR6' : ∀ b, R6 b → w1.heap.size ≤ b := fun b h => by
          rcases hR6 b h with h | h
          · exact hR5 b h
          · omega
        go_wp2_with fail
        exact ⟨⟨1, by omega, by go_num, R6, hm6, hR6', hbw6, hrow6⟩, by simp [intOf]⟩
      · subst hh
        have hp : putU (0, four k ch bi sh 1) ch 1 = (0, four k ch bi sh 2) := putU_ok _ ch 1 (by omega) (by omega)
        have hst := hid (makerU_any w1.heap.size R 0 (four k ch bi sh 1) ch 1 wr hm5 (by omega) (by simp [four, bytesLE_length]))
        rw [hp] at hst
        clear hp
        go_wp2_with fail
        refine hst.out.mono ?_
        rintro e w6 ⟨rfl, R6, hm6, hB6, hR6⟩
        have hbw6 := But.below hbw5 hB6 (fun b h => by have := hR5 b h; have := hbw1.size; omega) hbw5.size
        have hrow6 := (hB6.block w.heap.size hlt5 (fun h => by have := hR5 _ h; omega)).trans hrow5
        have hR6' : ∀ b, R6 b → w1.heap.size ≤ b := fun b h => by
          rcases hR6 b h with h | h
          · exact hR5 b h
          · omega
        go_wp2_with fail
        exact ⟨⟨2, by omega, by go_num, R6, hm6, hR6', hbw6, hrow6⟩, by simp [intOf]⟩
      · subst hh
        have hp : putU (0, four k ch bi sh 2) bi 1 = (0, four k ch bi sh 3) := putU_ok _ bi 1 (by omega) (by omega)
        have hst := hid (makerU_any w1.heap.size R 0 (four k ch bi sh 2) bi 1 wr hm5 (by omega) (by simp [four, bytesLE_length]))
        rw [hp] at hst
        clear hp
        go_wp2_with fail
        refine hst.out.mono ?_
        rintro e w6 ⟨rfl, R6, hm6, hB6, hR6⟩
        have hbw6 := But.below hbw5 hB6 (fun b h => by have := hR5 b h; have := hbw1.size; omega) hbw5.size
        have hrow6 := (hB6.block w.heap.size hlt5 (fun h => by have := hR5 _ h; omega)).trans hrow5
        have hR6' : ∀ b, R6 b → w1.heap.size ≤ b := fun b h => by
          rcases hR6 b h with h | h
          · exact hR5 b h
          · omega
        go_wp2_with fail
        exact ⟨⟨3, by omega, by go_num, R6, hm6, hR6', hbw6, hrow6⟩, by simp [intOf]⟩
      · subst hh
        have hp : putU (0, four k ch bi sh 3) sh 1 = (0, four k ch bi sh 4) := putU_ok _ sh 1 (by omega) (by omega)
        have hst := hid (makerU_any w1.heap.size R 0 (four k ch bi sh 3) sh 1 wr hm5 (by omega) (by simp [four, bytesLE_length]))
        rw [hp] at hst
        clear hp
        go_wp2_with fail
        refine hst.out.mono ?_
        rintro e w6 ⟨rfl, R6, hm6, hB6, hR6⟩
        have hbw6 := But.below hbw5 hB6 (fun b h => by have := hR5 b h; have := hbw1.size; omega) hbw5.size
        have hrow6 := (hB6.block w.heap.size hlt5 (fun h => by have := hR5 _ h; omega)).trans hrow5
        have hR6' : ∀ b, R6 b → w1.heap.size ≤ b := fun b h => by
          rcases hR6 b h with h | h
          · exact hR5 b h
          · omega
        go_wp2_with fail
        exact ⟨⟨4, by omega, by go_num, R6, hm6, hR6', hbw6, hrow6⟩, by simp [intOf]⟩
    · obtain rfl : n = 4 := by omega
      have c3 : wr.cell? ⟨w.heap.size, 3, none⟩ = some (.int .i64 (ra : Int)) := by rw [cell_of_row _ _ _ _ _ _ hrow5]; rfl
      have hp : putU (0, four k ch bi sh 4) ra 3 = (0, four k ch bi sh 4 ++ bytesLE ra 3) := putU_ok _ ra 3 (by omega) (by omega)
      have hst := hid (makerU_any w1.heap.size R 0 (four k ch bi sh 4) ra 3 wr hm5 (by omega) (by simp [four, bytesLE_length]))
      rw [hp] at hst
      clear hp
      go_wp2_with fail
      refine hst.out.mono ?_
      rintro e w6 ⟨rfl, R6, hm6, hB6, hR6⟩
      have hbw6 := But.below hbw5 hB6 (fun b h => by have := hR5 b h; have := hbw1.size; omega) hbw5.size
      have hrow6 := (hB6.block w.heap.size hlt5 (fun h => by have := hR5 _ h; omega)).trans hrow5
      have hlt6 : w.heap.size < w6.heap.size := (Array.getElem?_eq_some_iff.1 hrow6).1
      have hR6' : ∀ b, R6 b → w1.heap.size ≤ b := fun b h => by
        rcases hR6 b h with h | h
        · exact hR5 b h
        · omega
      have c4 : w6.cell? ⟨w.heap.size, 4, none⟩ = some (.int .i64 (bl : Int)) := by rw [cell_of_row _ _ _ _ _ _ hrow6]; rfl
      have hp : putU (0, four k ch bi sh 4 ++ bytesLE ra 3) bl 4 = (0, infoHead k ch bi sh ra bl) := (putU_ok _ bl 4 (by omega) (by omega)).trans (by rw [show infoHead k ch bi sh ra bl = four k ch bi sh 4 ++ bytesLE ra 3 ++ bytesLE bl 4 by simp [infoHead, four]])
      have hst := hid (makerU_any w1.heap.size R6 0 (four k ch bi sh 4 ++ bytesLE ra 3) bl 4 w6 hm6 (by omega) (by simp [four, bytesLE_length]))
      rw [hp] at hst
      have hlw6 := hm6.lt
      clear hp hB6 hR6 hm6 hrow5 hbw5 hm5 c3
      go_wp2_with fail
      refine hst.out.mono ?_
      rintro e w7 ⟨rfl, R7, hm7, hB7, hR7⟩
      have hbw7 := But.below hbw6 hB7 (fun b h => by have := hR6' b h; have := hbw1.size; omega) hbw6.size
      have hR7' : ∀ b, R7 b → w1.heap.size ≤ b := fun b h => by
        rcases hR7 b h with h | h
        · exact hR6' b h
        · omega
      have hhl : (infoHead k ch bi sh ra bl).length = 15 := by simp [infoHead, bytesLE_length]
      generalize infoHead k ch bi sh ra bl = L at *
      have HL := hid hhl
      clear hhl
      clear hst hB7 hR7 c4 hrow6
      go_wp2_with fail
      refine (bytes_ok w1.heap.size R7 L w7 hm7 (by rw [HL.out]; omega)).mono ?_
      rintro e w8 ⟨v, rfl, hv⟩
      obtain ⟨A8, c8, rfl, hs8, hA8, ho8, hb8⟩ := hv.parts
      have hbw8 := hbw7.trans (hb8.mono hbw7.size)
      have hm8 := hm7.below hb8
      have hsr := sumI_range L
      obtain ⟨S, hS⟩ := Int.eq_ofNat_of_zero_le hsr.1
      go_wp2_with fail
      refine (sum_any g A8 c8 L w8 (ht.keep hbw8 htg) hs8 (by rw [HL.out]; omega)).mono ?_
      rintro e w9 ⟨rfl, rfl⟩
      have hse : sealed L = L ++ bytesLE S 4 := by unfold sealed; rw [hS]; rfl
      have HSE := hid hse
      rw [hS] at hsr ⊢
      have hS4 : S < 4294967296 := by omega
      clear hse hS
      have hp : putU (0, L) S 4 = (0, L ++ bytesLE S 4) := putU_ok _ S 4 (by omega) (by omega)
      have hst := hid (makerU_any w1.heap.size R7 0 L S 4 w8 hm8 (by omega) (by rw [HL.out]; omega))
      rw [hp] at hst
      clear hp hm7 hv ho8 hs8 hA8
      go_wp2_with fail
      refine hst.out.mono ?_
      rintro e wa ⟨rfl, Ra, hma, hBa, hRa⟩
      have hbwa := But.below hbw8 hBa (fun b h => by have := hR7' b h; have := hbw1.size; omega) hbw8.size
      go_wp2_with fail
      refine (bytes_ok w1.heap.size Ra _ wa hma (by rw [List.length_append, bytesLE_length, HL.out]; omega)).mono ?_
      rintro e wb ⟨v, rfl, hv⟩
      have hf : PutPost w (sealed L) (.returned (.tuple #[v, .int .i64 0])) wb := ⟨v, rfl, by rw [HSE.out]; exact hv.lower hbwa⟩
      go_wp2_with fail
      go_ret2
      exact hf
end Go.Proofs.YtkmhmehofipehaaGreatDoor
