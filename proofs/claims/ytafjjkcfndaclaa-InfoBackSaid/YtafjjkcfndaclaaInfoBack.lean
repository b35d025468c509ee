/- Info that was laid is read, and the other way round. -/
import Derived.Test.YtafjjkcfndaclaaInfoGet2
import Derived.Test.YtafjjkcfndaclaaInfoPut
import Derived.Test.YtafjjkcfndaclaaBack
namespace Go.Proofs.Ytafjjkcfndaclaa
set_option linter.unusedVariables false
open Go.RowKit
theorem getI_sealed (k ch bi ra bl sh : Nat) (b : List UInt8) (hr : rightI k ch bi ra bl sh = true) (hk : k < 256 ∧ ch < 256 ∧ bi < 256 ∧ sh < 256 ∧ ra < 16777216 ∧ bl < 4294967296) :
    getI (sealed (infoHead k ch bi sh ra bl) ++ b) = (0, (k : Int), (ch : Int), (bi : Int), (ra : Int), (bl : Int), (sh : Int)) := by
  obtain ⟨k1, k2, k3, k4, k5, k6⟩ := hk
  have hs := sumI_range (infoHead k ch bi sh ra bl)
  have hH : (infoHead k ch bi sh ra bl).length = 15 := by simp [infoHead, bytesLE_length]
  have e15 : (sealed (infoHead k ch bi sh ra bl) ++ b).take 15 = infoHead k ch bi sh ra bl := by
    unfold sealed; rw [List.append_assoc, List.take_append_of_le_length (by omega), List.take_of_length_le (by omega)]
  have eS : fld (sealed (infoHead k ch bi sh ra bl) ++ b) 15 4 = (sumI (infoHead k ch bi sh ra bl)).toNat := by
    unfold fld sealed
    rw [List.append_assoc, fld_at _ _ _ 15 4 hH (bytesLE_length _ _), valLE_of _ _ (by omega)]
  obtain ⟨S, hS⟩ : ∃ S, S = (sumI (infoHead k ch bi sh ra bl)).toNat := ⟨_, rfl⟩
  have eX : sealed (infoHead k ch bi sh ra bl) ++ b = [68, 83, 67, 49] ++ (bytesLE k 1 ++ (bytesLE ch 1 ++ (bytesLE bi 1 ++ (bytesLE sh 1 ++ (bytesLE ra 3 ++ (bytesLE bl 4 ++ (bytesLE S 4 ++ b))))))) := by
    unfold sealed; rw [← hS]; unfold infoHead; simp only [List.append_assoc]
  have hst : startsI (sealed (infoHead k ch bi sh ra bl) ++ b) = true := by
    rw [eX]; unfold startsI; simp [bytesLE_length]
  have hln : ¬ (sealed (infoHead k ch bi sh ra bl) ++ b).length < 19 := by
    rw [eX]; simp [bytesLE_length]; omega
  have f4 : fld (sealed (infoHead k ch bi sh ra bl) ++ b) 4 1 = k := by
    rw [eX]; unfold fld; rw [fld_at _ _ _ 4 1 rfl (bytesLE_length _ _), valLE_of _ _ (by omega)]
  have f5 : fld (sealed (infoHead k ch bi sh ra bl) ++ b) 5 1 = ch := by
    rw [eX]; unfold fld; rw [← List.append_assoc, fld_at _ _ _ 5 1 (by simp [bytesLE_length]) (bytesLE_length _ _), valLE_of _ _ (by omega)]
  have f6 : fld (sealed (infoHead k ch bi sh ra bl) ++ b) 6 1 = bi := by
    rw [eX]; unfold fld; rw [← List.append_assoc, ← List.append_assoc, fld_at _ _ _ 6 1 (by simp [bytesLE_length]) (bytesLE_length _ _), valLE_of _ _ (by omega)]
  have f7 : fld (sealed (infoHead k ch bi sh ra bl) ++ b) 7 1 = sh := by
    rw [eX]; unfold fld; rw [← List.append_assoc, ← List.append_assoc, ← List.append_assoc, fld_at _ _ _ 7 1 (by simp [bytesLE_length]) (bytesLE_length _ _), valLE_of _ _ (by omega)]
  have f8 : fld (sealed (infoHead k ch bi sh ra bl) ++ b) 8 3 = ra := by
    rw [eX]; unfold fld; rw [← List.append_assoc, ← List.append_assoc, ← List.append_assoc, ← List.append_assoc, fld_at _ _ _ 8 3 (by simp [bytesLE_length]) (bytesLE_length _ _), valLE_of _ _ (by omega)]
  have f11 : fld (sealed (infoHead k ch bi sh ra bl) ++ b) 11 4 = bl := by
    rw [eX]; unfold fld; rw [← List.append_assoc, ← List.append_assoc, ← List.append_assoc, ← List.append_assoc, ← List.append_assoc, fld_at _ _ _ 11 4 (by simp [bytesLE_length]) (bytesLE_length _ _), valLE_of _ _ (by omega)]
  unfold getI saidI
  rw [hst, e15, eS, f4, f5, f6, f7, f8, f11, hr]
  rw [if_neg (by simp), if_neg hln, if_neg (by omega), if_neg (by simp)]
theorem getI_bad (b : List UInt8) (h : (getI b).1 ≠ 0) : ∃ er, er ≠ 0 ∧ getI b = (er, 0, 0, 0, 0, 0, 0) := by
  unfold getI at h ⊢
  split
  · exact ⟨_, by omega, rfl⟩
  · split
    · exact ⟨_, by omega, rfl⟩
    · split
      · exact ⟨_, by omega, rfl⟩
      · split
        · exact ⟨_, by omega, rfl⟩
        · exfalso; rename_i h1 h2 h3 h4
          rw [if_neg h1, if_neg h2, if_neg h3, if_neg h4] at h
          exact h rfl
theorem fld_back (b : List UInt8) (p n : Nat) (h : p + n ≤ b.length) : bytesLE (fld b p n) n = (b.drop p).take n := by
  have hl : ((b.drop p).take n).length = n := by simp; omega
  have := bytesLE_val ((b.drop p).take n)
  rw [hl] at this
  exact this
theorem getI_good (b : List UInt8) (h : (getI b).1 = 0) : ∃ k ch bi ra bl sh : Nat, getI b = (0, (k : Int), (ch : Int), (bi : Int), (ra : Int), (bl : Int), (sh : Int)) ∧ rightI k ch bi ra bl sh = true ∧
    (k < 256 ∧ ch < 256 ∧ bi < 256 ∧ sh < 256 ∧ ra < 16777216 ∧ bl < 4294967296) ∧ sealed (infoHead k ch bi sh ra bl) = b.take 19 ∧ 19 ≤ b.length := by
  by_cases h1 : startsI b = false
  · unfold getI at h; rw [if_pos h1] at h; simp at h
  by_cases h2 : b.length < 19
  · unfold getI at h; rw [if_neg h1, if_pos h2] at h; simp at h
  by_cases h3 : sumI (b.take 15) ≠ (fld b 15 4 : Int)
  · unfold getI at h; rw [if_neg h1, if_neg h2, if_pos h3] at h; simp at h
  by_cases h4 : rightI (fld b 4 1) (fld b 5 1) (fld b 6 1) (fld b 8 3) (fld b 11 4) (fld b 7 1) = false
  · unfold getI at h; rw [if_neg h1, if_neg h2, if_neg h3, if_pos h4] at h; simp at h
  have hst : b.take 4 = [68, 83, 67, 49] := by
    have e : startsI b = true := by simpa using h1
    have := of_decide_eq_true e
    rw [this, List.take_of_length_le (by simp; omega)]
  have hlt : fld b 4 1 < 256 ∧ fld b 5 1 < 256 ∧ fld b 6 1 < 256 ∧ fld b 7 1 < 256 ∧ fld b 8 3 < 16777216 ∧ fld b 11 4 < 4294967296 := ⟨fld_lt b 4 1, fld_lt b 5 1, fld_lt b 6 1, fld_lt b 7 1, fld_lt b 8 3, fld_lt b 11 4⟩
  have t : ∀ p n, b.take p ++ (b.drop p).take n = b.take (p + n) := fun p n => List.take_add.symm
  have e15 : infoHead (fld b 4 1) (fld b 5 1) (fld b 6 1) (fld b 7 1) (fld b 8 3) (fld b 11 4) = b.take 15 := by
    unfold infoHead
    rw [fld_back b 4 1 (by omega), fld_back b 5 1 (by omega), fld_back b 6 1 (by omega), fld_back b 7 1 (by omega), fld_back b 8 3 (by omega), fld_back b 11 4 (by omega), ← hst, t 4 1, t 5 1, t 6 1, t 7 1, t 8 3, t 11 4]
  refine ⟨fld b 4 1, fld b 5 1, fld b 6 1, fld b 8 3, fld b 11 4, fld b 7 1, ?_, by simpa using h4, hlt, ?_, by omega⟩
  · unfold getI; rw [if_neg h1, if_neg h2, if_neg h3, if_neg h4]; rfl
  · have hS : (sumI (b.take 15)).toNat = fld b 15 4 := by omega
    unfold sealed
    rw [e15, hS, fld_back b 15 4 (by omega), t 15 4]
end Go.Proofs.Ytafjjkcfndaclaa
