/- What was set is found, what was dropped is not: plain. -/
import Derived.Test.YtlcbfikmljmlpaaDoorTagsSet2
namespace Go.Proofs.YtlcbfikmljmlpaaDoor
set_option linter.unusedVariables false
theorem checkR_ok (l : List TagV) : ∀ (r : List TagV) (i : Nat), (checkR l r i).2 = 0 → ∀ j, ∀ h : j < r.length, badAt l r[j].k (i + j) = false ∧ valB r[j].v = true
  | [], _, _, j, h => by simp at h
  | x :: r, i, hc, j, h => by
    unfold checkR at hc
    cases hb : badAt l x.k i with
    | true => rw [if_pos hb] at hc; exact absurd (show (40 : Int) = 0 from hc) (by decide)
    | false =>
      rw [if_neg (by rw [hb]; simp)] at hc
      cases hv : valB x.v with
      | false => rw [if_pos hv] at hc; exact absurd (show (41 : Int) = 0 from hc) (by decide)
      | true =>
        rw [if_neg (by rw [hv]; simp)] at hc
        rcases j with _ | j
        · exact ⟨hb, hv⟩
        · have := checkR_ok l r (i + 1) hc j (by simpa using h)
          rw [show i + 1 + j = i + (j + 1) by omega] at this
          exact this
theorem checkT_ok {l : List TagV} (h : (checkT l).2 = 0) : l.length ≤ 64 ∧ ∀ j, ∀ h : j < l.length, badAt l l[j].k j = false ∧ valB l[j].v = true := by
  unfold checkT at h
  by_cases h64 : 64 < l.length
  · rw [if_pos h64] at h; exact absurd h (by decide)
  · rw [if_neg h64] at h
    refine ⟨by omega, fun j hj => ?_⟩
    have := checkR_ok l l 0 h j hj
    rwa [Nat.zero_add] at this
/-- no two keys of right tags are alike -/
theorem uniq {l : List TagV} (h : (checkT l).2 = 0) {i j : Nat} (hij : i < j) (hj : j < l.length) : foldS l[i].k ≠ foldS l[j].k := by
  have hb := ((checkT_ok h).2 j hj).1
  unfold badAt at hb
  rw [Bool.or_eq_false_iff] at hb
  have h2 := List.any_eq_false.1 hb.2 l[i] (by
    rw [List.mem_take_iff_getElem]
    exact ⟨i, by omega, rfl⟩)
  intro he
  exact h2 (decide_eq_true he)
theorem uniq_mem {l : List TagV} (h : (checkT l).2 = 0) {x y : TagV} (hx : x ∈ l) (hy : y ∈ l) (he : foldS x.k = foldS y.k) : x = y := by
  obtain ⟨i, hi, rfl⟩ := List.getElem_of_mem hx
  obtain ⟨j, hj, rfl⟩ := List.getElem_of_mem hy
  rcases Nat.lt_trichotomy i j with hij | rfl | hij
  · exact absurd he (uniq h hij hj)
  · rfl
  · exact absurd he.symm (uniq h hij hi)
theorem idx_before (p : TagV → Bool) : ∀ (l : List TagV) (s i : Nat), idxFrom p l (s : Int) = ((s + i : Nat) : Int) → ∃ h : i < l.length, p l[i] = true ∧ ∀ j (hj : j < i), p (l[j]'(by omega)) = false
  | [], s, i, h => by
    have h' : (-1 : Int) = ((s + i : Nat) : Int) := h
    omega
  | x :: l, s, i, h => by
    unfold idxFrom at h
    cases hp : p x with
    | true =>
      rw [hp, if_pos rfl] at h
      obtain rfl : i = 0 := by omega
      exact ⟨by simp, hp, fun j hj => by omega⟩
    | false =>
      rw [hp, if_neg (by simp)] at h
      rcases i with _ | i
      · exfalso
        have hn := idx_none p l (s + 1)
        by_cases h1 : idxFrom p l ((s + 1 : Nat) : Int) = -1
        · have h2 : idxFrom p l ((s : Int) + 1) = -1 := h1
          omega
        · obtain ⟨i, hi, e, _⟩ := idx_some p l (s + 1) _ rfl h1
          have h2 : idxFrom p l ((s : Int) + 1) = ((s + 1 + i : Nat) : Int) := e
          omega
      · have h2 : idxFrom p l ((s + 1 : Nat) : Int) = ((s + 1 + i : Nat) : Int) := by
          rw [show s + 1 + i = s + (i + 1) by omega]; exact h
        obtain ⟨hi, h3, h4⟩ := idx_before p l (s + 1) i h2
        refine ⟨by simpa using hi, h3, fun j hj => ?_⟩
        rcases j with _ | j
        · exact hp
        · exact h4 j (by omega)
/-- what is set is found -/
theorem found_set (l : List TagV) (t : TagV) : foundT (foldS t.k) (setT l t) = some t := by
  have ht : alike (foldS t.k) t = true := decide_eq_true rfl
  unfold foundT setT
  obtain ⟨z, hz⟩ : ∃ z, idxFrom (alike (foldS t.k)) l 0 = z := ⟨_, rfl⟩
  rw [hz]
  by_cases h1 : z = -1
  · rw [if_pos h1, List.find?_append, idx_none _ l 0 (hz.trans h1), List.find?_cons, ht]
    rfl
  · obtain ⟨i, hi, rfl, _⟩ := idx_some _ l 0 z hz h1
    rw [Nat.zero_add] at hz h1 ⊢
    obtain ⟨_, _, hbef⟩ := idx_before _ l 0 i (by rw [Nat.zero_add]; exact hz)
    rw [if_neg h1, Int.toNat_natCast, List.find?_eq_some_iff_getElem]
    refine ⟨ht, i, by rw [List.length_set]; exact hi, List.getElem_set_self _, fun j hj => ?_⟩
    rw [List.getElem_set_ne (by omega), hbef j hj]
    rfl
/-- what is dropped is not found -/
theorem found_keep (K : ByteArray) (l : List TagV) : foundT K (keepT K l) = none := by
  unfold foundT keepT
  rw [List.find?_eq_none]
  intro x hx
  have := (List.mem_filter.1 hx).2
  simpa using this
theorem keep_all (K : ByteArray) : ∀ (l : List TagV), (∀ x ∈ l, alike K x = false) → keepT K l = l
  | [], _ => rfl
  | x :: l, h => by
    unfold keepT
    rw [List.filter_cons, h x (by simp)]
    exact congrArg (x :: ·) (keep_all K l (fun y hy => h y (by simp [hy])))
/-- one is dropped -/
theorem keep_len {M : List TagV} (h : (checkT M).2 = 0) {K : ByteArray} {t : TagV} (hf : foundT K M = some t) : (keepT K M).length + 1 = M.length := by
  unfold foundT at hf
  rw [List.find?_eq_some_iff_getElem] at hf
  obtain ⟨ht, i, hi, he, hb⟩ := hf
  have h1 : M = M.take i ++ M[i] :: M.drop (i + 1) := by rw [← List.drop_eq_getElem_cons hi, List.take_append_drop]
  have hKi : foldS M[i].k = K := by rw [he]; exact of_decide_eq_true ht
  have e1 : keepT K (M.take i) = M.take i := keep_all K _ fun x hx => by
    obtain ⟨j, hj, rfl⟩ := List.mem_take_iff_getElem.1 hx
    have := hb j (by omega)
    simpa using this
  have e2 : keepT K (M.drop (i + 1)) = M.drop (i + 1) := keep_all K _ fun x hx => by
    obtain ⟨j, hj, rfl⟩ := List.mem_iff_getElem.1 hx
    rw [List.length_drop] at hj
    rw [List.getElem_drop]
    apply decide_eq_false
    intro hk
    exact uniq h (show i < i + 1 + j by omega) (by omega) (hKi.trans hk.symm)
  have e3 : keepT K M = M.take i ++ M.drop (i + 1) := by
    have : keepT K M = keepT K (M.take i ++ M[i] :: M.drop (i + 1)) := congrArg (keepT K) h1
    rw [this]
    unfold keepT at e1 e2 ⊢
    rw [List.filter_append, List.filter_cons, e1, e2, show alike K M[i] = true by rw [he]; exact ht]
    rfl
  rw [e3, List.length_append, List.length_take, List.length_drop]
  omega
theorem mem_set {l : List TagV} {t x : TagV} (hx : x ∈ l) (hne : foldS x.k ≠ foldS t.k) : x ∈ setT l t := by
  unfold setT
  obtain ⟨z, hz⟩ : ∃ z, idxFrom (alike (foldS t.k)) l 0 = z := ⟨_, rfl⟩
  rw [hz]
  by_cases h1 : z = -1
  · rw [if_pos h1]; exact List.mem_append_left _ hx
  · obtain ⟨i, hi, rfl, _⟩ := idx_some _ l 0 z hz h1
    rw [Nat.zero_add] at hz h1 ⊢
    obtain ⟨_, hal, _⟩ := idx_before _ l 0 i (by rw [Nat.zero_add]; exact hz)
    rw [if_neg h1, Int.toNat_natCast]
    obtain ⟨j, hj, rfl⟩ := List.getElem_of_mem hx
    rw [List.mem_iff_getElem]
    have hij : i ≠ j := by
      rintro rfl
      exact hne (of_decide_eq_true hal)
    exact ⟨j, by rw [List.length_set]; exact hj, by rw [List.getElem_set_ne hij]⟩
/-- others stay -/
theorem found_other {l : List TagV} {t x : TagV} (h : (checkT (setT l t)).2 = 0) (hx : x ∈ l) (hne : foldS x.k ≠ foldS t.k) : foundT (foldS x.k) (setT l t) = some x := by
  have hm := mem_set hx hne
  generalize setT l t = M at *
  cases hf : foundT (foldS x.k) M with
  | none =>
    unfold foundT at hf
    rw [List.find?_eq_none] at hf
    exact absurd (decide_eq_true rfl) (hf x hm)
  | some y =>
    unfold foundT at hf
    have h1 := List.find?_some hf
    have h2 := List.mem_of_find?_eq_some hf
    rw [uniq_mem h h2 hm (of_decide_eq_true h1)]
end Go.Proofs.YtlcbfikmljmlpaaDoor
