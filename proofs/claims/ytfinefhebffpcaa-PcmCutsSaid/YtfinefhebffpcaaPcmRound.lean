/- Woven and parted again. -/
import Derived.Test.YtfinefhebffpcaaPcmRPart
namespace Go.Proofs.Ytfinefhebffpcaa
set_option linter.unusedVariables false
open Go.RowKit
theorem weave_at (L : List Chan) : ∀ (C j k : Nat) (hj : j < C) (hk : k < L.length), (weaveTo L C).getD (j * L.length + k) 0 = L[k].l.getD j 0
  | 0, j, k, hj, _ => by omega
  | C + 1, j, k, hj, hk => by
    have hl := weaveTo_len L C
    rw [weaveTo_succ]
    by_cases h : j < C
    · have : (j + 1) * L.length ≤ C * L.length := Nat.mul_le_mul_right _ h
      rw [Nat.add_mul] at this
      rw [List.getD_eq_getElem?_getD, List.getElem?_append_left (by omega), ← List.getD_eq_getElem?_getD]
      exact weave_at L C j k h hk
    · obtain rfl : j = C := by omega
      rw [List.getD_eq_getElem?_getD, List.getElem?_append_right (by omega), hl, Nat.add_sub_cancel_left]
      unfold frameL
      rw [List.getElem?_map, List.getElem?_eq_getElem hk]
      rfl
theorem weave_mem (L : List Chan) (C : Nat) (h : ∀ x ∈ L, x.l.length = C) : ∀ y ∈ weaveTo L C, ∃ x ∈ L, y ∈ x.l := by
  intro y hy
  unfold weaveTo frameL at hy
  obtain ⟨i, hi, hy⟩ := List.mem_flatMap.1 hy
  obtain ⟨x, hx, rfl⟩ := List.mem_map.1 hy
  have hi : i < C := by simpa using hi
  have hl := h x hx
  refine ⟨x, hx, ?_⟩
  rw [show x.l.getD i 0 = x.l[i]'(by omega) by simp [List.getD, hl, hi]]
  exact List.getElem_mem _
theorem loud_none {n : Nat} {l m : List Int} (h : loudI n l = false) (hm : ∀ y ∈ m, y ∈ l) : loudI n m = false := by
  unfold loudI at h ⊢
  rw [List.any_eq_false] at h ⊢
  exact fun y hy => h y (hm y hy)
/-- what is woven of right sound can be parted, and is as it was -/
theorem part_weave {ch bi ra : Int} {L : List Chan} (h : checkV ch bi ra L = 0) : partV ch bi ra (weaveTo L (countL L)) = 0 ∧ (List.range ch.toNat).map (colL (weaveTo L (countL L)) ch.toNat ((weaveTo L (countL L)).length / ch.toNat)) = ints L := by
  obtain ⟨hr, hch, hC, hall⟩ := check_ok h
  have hr2 := hr
  unfold rightF at hr2
  have hr2 := of_decide_eq_true hr2
  subst hch
  rw [Int.toNat_natCast]
  have hl := weaveTo_len L (countL L)
  have h1 : 0 < L.length := by omega
  have hdiv : (weaveTo L (countL L)).length / L.length = countL L := by rw [hl, Nat.mul_div_cancel _ h1]
  constructor
  · unfold partV
    rw [hr, if_neg (by simp), if_neg (by rw [Int.toNat_natCast, hl]; simp), if_neg]
    rw [Bool.not_eq_true]
    unfold loudI
    rw [List.any_eq_false]
    intro y hy
    obtain ⟨x, hx, hyx⟩ := weave_mem L _ (fun x hx => (hall x hx).1) y hy
    have := (hall x hx).2
    unfold loudI at this
    rw [List.any_eq_false] at this
    exact this y hyx
  · rw [hdiv]
    apply List.ext_getElem (by simp [ints])
    intro k hk hk'
    have hkl : k < L.length := by simpa using hk
    simp only [List.getElem_map, List.getElem_range, ints]
    have hxl := (hall L[k] (List.getElem_mem hkl)).1
    apply List.ext_getElem (by rw [colL_len, hxl])
    intro j hj hj'
    have hjC : j < countL L := by rw [colL_len] at hj; exact hj
    have e := weave_at L (countL L) j k hjC hkl
    have : (colL (weaveTo L (countL L)) L.length (countL L) k)[j] = (weaveTo L (countL L)).getD (j * L.length + k) 0 := by simp [colL]
    rw [this, e]
    simp [List.getD, hj']
/-- what is parted is right sound, and woven as it was -/
theorem weave_part {ch bi ra : Int} {l : List Int} {L : List Chan} (h : partV ch bi ra l = 0) (hlen : l.length ≤ 4294967295) (hL : ints L = (List.range ch.toNat).map (colL l ch.toNat (l.length / ch.toNat))) : checkV ch bi ra L = 0 ∧ weaveTo L (countL L) = l := by
  unfold partV at h
  cases hr : rightF ch bi ra with
  | false => rw [hr] at h; simp at h
  | true =>
    rw [hr, if_neg (by simp)] at h
    by_cases hm : l.length % ch.toNat ≠ 0
    · rw [if_pos hm] at h; simp at h
    · rw [if_neg hm] at h
      by_cases hlo : loudI bi.toNat l = true
      · rw [if_pos hlo] at h; simp at h
      · have hr2 := hr
        unfold rightF at hr2
        have hr2 := of_decide_eq_true hr2
        obtain ⟨CH, rfl⟩ : ∃ n : Nat, ch = (n : Int) := ⟨ch.toNat, by omega⟩
        rw [Int.toNat_natCast] at hm hL
        have h1 : 0 < CH := by omega
        obtain ⟨n, hn⟩ : ∃ n, n = l.length / CH := ⟨_, rfl⟩
        rw [← hn] at hL
        have hln : l.length = n * CH := by
          have := Nat.div_add_mod l.length CH
          rw [Nat.mul_comm, ← hn] at this
          omega
        have hLl : L.length = CH := by have := congrArg List.length hL; simpa [ints] using this
        have hx : ∀ (k : Nat) (hk : k < L.length), L[k].l = colL l CH n k := by
          intro k hk
          have e1 : (ints L)[k]? = some L[k].l := by unfold ints; rw [List.getElem?_map, List.getElem?_eq_getElem hk]; rfl
          rw [hL, List.getElem?_map, List.getElem?_range (by omega)] at e1
          injection e1 with e1
          exact e1.symm
        have hcnt : countL L = n := by
          cases L with
          | nil => simp at hLl; omega
          | cons x L =>
            have := hx 0 (by simp)
            simp only [List.getElem_cons_zero] at this
            show x.l.length = n
            rw [this, colL_len]
        have hlo' : loudI bi.toNat l = false := by simpa using hlo
        have hmem : ∀ x ∈ L, x.l.length = n ∧ loudI bi.toNat x.l = false := by
          intro x hxm
          obtain ⟨k, hk, rfl⟩ := List.getElem_of_mem hxm
          rw [hx k hk]
          refine ⟨colL_len _ _ _ _, loud_none hlo' fun y hy => ?_⟩
          unfold colL at hy
          obtain ⟨j, hj, rfl⟩ := List.mem_map.1 hy
          have hj : j < n := by simpa using hj
          have : (j + 1) * CH ≤ n * CH := Nat.mul_le_mul_right _ hj
          rw [Nat.add_mul] at this
          have hlt : j * CH + k < l.length := by omega
          rw [show l.getD (j * CH + k) 0 = l[j * CH + k] by simp [List.getD, hlt]]
          exact List.getElem_mem _
        constructor
        · unfold checkV
          rw [hr, if_neg (by simp), if_neg, if_neg, if_neg]
          · rw [Bool.not_eq_true, List.any_eq_false]
            intro x hx; rw [(hmem x hx).2]; simp
          · rw [Bool.not_eq_true, List.any_eq_false]
            intro x hx; rw [(hmem x hx).1, hcnt]; simp
          · have : n ≤ l.length := by rw [hn]; exact Nat.div_le_self _ _
            omega
        · rw [hcnt]
          subst hLl
          apply List.ext_getElem (by rw [weaveTo_len, hln])
          intro i hi hi'
          have hk := Nat.mod_lt i h1
          have hj : i / L.length < n := Nat.div_lt_of_lt_mul (by rw [Nat.mul_comm, ← hln]; exact hi')
          have e := weave_at L n (i / L.length) (i % L.length) hj (by omega)
          have he : i / L.length * L.length + i % L.length = i := by have := Nat.div_add_mod i L.length; rw [Nat.mul_comm] at this; exact this
          rw [he, hx (i % L.length) (by omega)] at e
          rw [show (weaveTo L n).getD i 0 = (weaveTo L n)[i] by simp [List.getD, hi]] at e
          rw [e]
          have : (colL l L.length n (i % L.length)).getD (i / L.length) 0 = l.getD (i / L.length * L.length + i % L.length) 0 := by simp [colL, List.getD, hj]
          rw [this, he]
          simp [List.getD, hi']
end Go.Proofs.Ytfinefhebffpcaa
