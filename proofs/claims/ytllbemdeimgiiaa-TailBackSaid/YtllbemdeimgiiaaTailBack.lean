/- A tail laid and read, in plain Lean: each from the other. -/
import Derived.Test.YtllbemdeimgiiaaTailGetPlain
import Derived.Test.YtllbemdeimgiiaaTailPut
import Derived.Test.YtllbemdeimgiiaaBack
namespace Go.Proofs.Ytllbemdeimgiiaa
set_option linter.unusedVariables false
open Go.RowKit
theorem fldT_skip (X R : List UInt8) (p q n : Nat) (h : X.length = p) : fldT (X ++ R) (p + q) n = fldT R q n := by
  subst h; unfold fldT; rw [← List.drop_drop, List.drop_left]
theorem fldT_head (X R : List UInt8) (n : Nat) (h : X.length = n) : fldT (X ++ R) 0 n = valLE X := by
  subst h; unfold fldT; rw [List.drop_zero, List.take_left]
theorem le4 (v : Nat) (h : v < 4294967296) : valLE (bytesLE v 4) = v := valLE_of v 4 h
theorem le5 (v : Nat) (h : v < 1099511627776) : valLE (bytesLE v 5) = v := valLE_of v 5 h
theorem places_at (l : List Int) (R : List UInt8) (i : Nat) (hi : i < l.length) (h : ∀ (i : Nat) (h : i < l.length), 0 ≤ l[i] ∧ l[i] < 1099511627776) : (fldT (placesB l ++ R) (5 * i) 5 : Int) = l[i] := by
  induction l generalizing i with
  | nil => simp at hi
  | cons x l ih =>
    have e : placesB (x :: l) ++ R = bytesLE x.toNat 5 ++ (placesB l ++ R) := by simp [placesB]
    rw [e]
    have hx := h 0 (by simp)
    simp only [List.getElem_cons_zero] at hx
    cases i with
    | zero =>
      rw [show 5 * 0 = 0 from rfl, fldT_head _ _ 5 (bytesLE_length _ _), le5 _ (by omega), List.getElem_cons_zero]
      omega
    | succ i =>
      rw [show 5 * (i + 1) = 5 + 5 * i by omega, fldT_skip _ _ 5 _ _ (bytesLE_length _ _), List.getElem_cons_succ]
      exact ih i (by simpa using hi) (fun j hj => by have := h (j + 1) (by simpa using hj); simpa using this)
theorem plc_places (P : List UInt8) (l : List Int) (R : List UInt8) (hP : P.length = 14) (h : ∀ (i : Nat) (h : i < l.length), 0 ≤ l[i] ∧ l[i] < 1099511627776) : plcT (P ++ (placesB l ++ R)) l.length = l := by
  apply List.ext_getElem
  · exact plcT_len _ _
  · intro i h1 h2
    have e : (plcT (P ++ (placesB l ++ R)) l.length)[i]'h1 = (fldT (P ++ (placesB l ++ R)) (14 + 5 * i) 5 : Int) := by simp [plcT]
    rw [e, fldT_skip P _ 14 _ _ hP]
    exact places_at l R i h2 h
/-- what is laid is read -/
theorem getT_put (count sum : Nat) (l : List Int) (M : List UInt8) (hc : count < 4294967296) (hs : sum < 4294967296) (hr : rightB count l = true) :
    getT (sealed (tailHead count sum l) ++ M) = ((0 : Int), (((sealed (tailHead count sum l)).length : Nat) : Int), ((count : Nat) : Int), ((sum : Nat) : Int), l) := by
  obtain ⟨_, _, hll, hpl⟩ := right_range hr
  have hHl := tailHead_len count sum l
  obtain ⟨H, hH⟩ : ∃ H, H = tailHead count sum l := ⟨_, rfl⟩
  rw [← hH] at hHl
  rw [← hH]
  obtain ⟨b, hb⟩ : ∃ b, b = sealed H ++ M := ⟨_, rfl⟩
  rw [← hb]
  have hsl : (sealed H).length = 18 + 5 * l.length := by unfold sealed; rw [List.length_append, bytesLE_length, hHl]; omega
  have hbl : b.length = 18 + 5 * l.length + M.length := by rw [hb, List.length_append, hsl]
  have e1 : b = H ++ (bytesLE (sumI H).toNat 4 ++ M) := by rw [hb]; unfold sealed; rw [List.append_assoc]
  have e2 : b = [69, 78] ++ (bytesLE count 4 ++ (bytesLE sum 4 ++ (bytesLE l.length 4 ++ (placesB l ++ (bytesLE (sumI H).toNat 4 ++ M))))) := by
    rw [e1, hH]; simp [tailHead, threeB, List.append_assoc]
  have e3 : b = threeB count sum l.length 3 ++ (placesB l ++ (bytesLE (sumI H).toNat 4 ++ M)) := by
    rw [e1]
    have : H = threeB count sum l.length 3 ++ placesB l := hH
    rw [this, List.append_assoc]
  have f2 : fldT b 2 4 = count := by
    rw [e2, show fldT _ 2 4 = fldT _ (2 + 0) 4 from rfl, fldT_skip _ _ 2 _ _ rfl, fldT_head _ _ 4 (bytesLE_length _ _), le4 _ hc]
  have f6 : fldT b 6 4 = sum := by
    rw [e2, show fldT _ 6 4 = fldT _ (2 + (4 + 0)) 4 from rfl, fldT_skip _ _ 2 _ _ rfl, fldT_skip _ _ 4 _ _ (bytesLE_length _ _), fldT_head _ _ 4 (bytesLE_length _ _), le4 _ hs]
  have f10 : fldT b 10 4 = l.length := by
    rw [e2, show fldT _ 10 4 = fldT _ (2 + (4 + (4 + 0))) 4 from rfl, fldT_skip _ _ 2 _ _ rfl, fldT_skip _ _ 4 _ _ (bytesLE_length _ _), fldT_skip _ _ 4 _ _ (bytesLE_length _ _), fldT_head _ _ 4 (bytesLE_length _ _), le4 _ (by omega)]
  have hst : startsT b = true := by rw [e2]; simp [startsT]
  have hpc : plcT b l.length = l := by rw [e3]; exact plc_places _ l _ (threeB_len _ _ _) hpl
  have hsr := sumI_range H
  have htk : b.take (14 + 5 * l.length) = H := by rw [e1]; exact List.take_left' hHl
  have hfs : fldT b (14 + 5 * l.length) 4 = (sumI H).toNat := by
    rw [e1, show fldT _ (14 + 5 * l.length) 4 = fldT (H ++ (bytesLE (sumI H).toNat 4 ++ M)) (14 + 5 * l.length + 0) 4 from rfl, fldT_skip _ _ _ _ _ hHl, fldT_head _ _ 4 (bytesLE_length _ _), le4 _ (by omega)]
  unfold getT
  rw [if_neg (by rw [hst]; simp), if_neg (by omega), f10, if_neg (by omega), if_neg (by omega), if_neg (by rw [htk, hfs]; omega), f2, f6, hpc, if_neg (by rw [hr]; simp), hsl]
theorem cut_bytes (b : List UInt8) (p n : Nat) (h : p + n ≤ b.length) : bytesLE (fldT b p n) n = (b.drop p).take n := by
  have hl : ((b.drop p).take n).length = n := by simp; omega
  have h1 := bytesLE_val ((b.drop p).take n)
  rw [hl] at h1
  exact h1
theorem take_more (b : List UInt8) (p n : Nat) : b.take (p + n) = b.take p ++ (b.drop p).take n := by
  rw [List.take_add]
theorem places_cut (b : List UInt8) (n : Nat) (h : 14 + 5 * n ≤ b.length) : b.take 14 ++ placesB (plcT b n) = b.take (14 + 5 * n) := by
  induction n with
  | zero => simp [plcT, placesB]
  | succ n ih =>
    have e : placesB (plcT b (n + 1)) = placesB (plcT b n) ++ bytesLE (fldT b (14 + 5 * n) 5) 5 := by
      rw [plcT_succ]; simp [placesB]
    rw [e, ← List.append_assoc, ih (by omega), cut_bytes b _ 5 (by omega), show 14 + 5 * (n + 1) = (14 + 5 * n) + 5 by omega]
    exact (take_more b (14 + 5 * n) 5).symm
theorem starts_two (b : List UInt8) (h : startsT b = true) (hl : 2 ≤ b.length) : b.take 2 = [69, 78] := by
  match b, hl with
  | x :: y :: t, _ =>
    unfold startsT at h
    simp at h
    simp [h.1, h.2]
/-- what is read is laid -/
theorem put_getT (b : List UInt8) (h : (getT b).1 = 0) :
    ∃ (N cnt sm : Nat), getT b = (0, ((18 + 5 * N : Nat) : Int), (cnt : Int), (sm : Int), plcT b N) ∧ cnt < 4294967296 ∧ sm < 4294967296 ∧ 18 + 5 * N ≤ b.length ∧ N ≤ 16777216 ∧ rightB (cnt : Nat) (plcT b N) = true ∧ sealed (tailHead cnt sm (plcT b N)) = b.take (18 + 5 * N) := by
  unfold getT at h ⊢
  split at h
  · exact absurd h (by decide)
  · split at h
    · exact absurd h (by decide)
    · split at h
      · exact absurd h (by decide)
      · split at h
        · exact absurd h (by decide)
        · split at h
          · exact absurd h (by decide)
          · split at h
            · exact absurd h (by decide)
            · rename_i h1 h2 h3 h4 h5 h6
              rw [if_neg h1, if_neg h2, if_neg h3, if_neg h4, if_neg h5, if_neg h6]
              refine ⟨fldT b 10 4, fldT b 2 4, fldT b 6 4, rfl, fldT_lt b 2 4, fldT_lt b 6 4, by omega, by omega, by simpa using h6, ?_⟩
              have hst : startsT b = true := by simpa using h1
              have hs : sumI (b.take (14 + 5 * fldT b 10 4)) = (fldT b (14 + 5 * fldT b 10 4) 4 : Int) := by simpa using h5
              have e14 : threeB (fldT b 2 4) (fldT b 6 4) (plcT b (fldT b 10 4)).length 3 = b.take 14 := by
                rw [plcT_len, show (14 : Nat) = 2 + 4 + 4 + 4 from rfl, take_more b (2 + 4 + 4) 4, take_more b (2 + 4) 4, take_more b 2 4, ← cut_bytes b 2 4 (by omega), ← cut_bytes b (2 + 4) 4 (by omega), ← cut_bytes b (2 + 4 + 4) 4 (by omega), starts_two b hst (by omega)]
                simp [threeB]
              have eh : tailHead (fldT b 2 4) (fldT b 6 4) (plcT b (fldT b 10 4)) = b.take (14 + 5 * fldT b 10 4) := by
                unfold tailHead
                rw [e14, places_cut b _ (by omega)]
              unfold sealed
              rw [eh, hs, Int.toNat_natCast, cut_bytes b _ 4 (by omega), show 18 + 5 * fldT b 10 4 = (14 + 5 * fldT b 10 4) + 4 by omega]
              exact (take_more b (14 + 5 * fldT b 10 4) 4).symm
end Go.Proofs.Ytllbemdeimgiiaa
