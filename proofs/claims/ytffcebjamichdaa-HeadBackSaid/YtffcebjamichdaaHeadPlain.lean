/- What is sealed, opened; a block with a byte changed: in plain Lean. -/
import Derived.Test.YtffcebjamichdaaHeadOpen
import Derived.Test.YtffcebjamichdaaHeadPut
import Derived.Test.YtffcebjamichdaaBack
namespace Go.Proofs.Ytffcebjamichdaa
set_option linter.unusedVariables false
open Go.RowKit
theorem fldH_skip (X R : List UInt8) (p q n : Nat) (h : X.length = p) : fldH (X ++ R) (p + q) n = fldH R q n := by
  subst h; unfold fldH; rw [← List.drop_drop, List.drop_left]
theorem fldH_head (X R : List UInt8) (n : Nat) (h : X.length = n) : fldH (X ++ R) 0 n = valLE X := by
  subst h; unfold fldH; rw [List.drop_zero, List.take_left]
def lastB (lst : Bool) : UInt8 := if lst then 1 else 0
/-- a block, its fields apart -/
def blockB (K : Nat) (lst : Bool) (IX LE ST BN LK n s28 sA : Nat) (P M : List UInt8) : List UInt8 :=
  [222, 92] ++ ([UInt8.ofNat K] ++ ([lastB lst] ++ (bytesLE IX 4 ++ (bytesLE LE 4 ++ (bytesLE ST 4 ++ (bytesLE BN 4 ++ (bytesLE LK 4 ++ (bytesLE n 4 ++ (bytesLE s28 4 ++ (P ++ (bytesLE sA 4 ++ M)))))))))))
theorem block_is (K : Nat) (lst : Bool) (IX LE ST BN LK : Nat) (P M : List UInt8) :
    sealed (sealed (headHead K lst IX LE ST BN LK P.length) ++ P) ++ M = blockB K lst IX LE ST BN LK P.length (sumI (headHead K lst IX LE ST BN LK P.length)).toNat (sumI (sealed (headHead K lst IX LE ST BN LK P.length) ++ P)).toNat P M := by
  obtain ⟨z, hz⟩ : ∃ z, z = (sumI (sealed (headHead K lst IX LE ST BN LK P.length) ++ P)).toNat := ⟨_, rfl⟩
  rw [sealed, ← hz, sealed]
  simp [blockB, headHead, sixB, headFour, lastB, List.append_assoc]
theorem le4 (v : Nat) (h : v < 4294967296) : valLE (bytesLE v 4) = v := valLE_of v 4 h
section
variable (K : Nat) (lst : Bool) (IX LE ST BN LK n s28 sA : Nat) (P M : List UInt8)
theorem bl2 (h : K < 256) : fldH (blockB K lst IX LE ST BN LK n s28 sA P M) 2 1 = K := by
  unfold blockB
  rw [show 2 = 2 + 0 from rfl, fldH_skip _ _ 2 0 _ rfl, fldH_head _ _ 1 rfl]
  simp [valLE, Nat.mod_eq_of_lt h]
theorem bl3 : fldH (blockB K lst IX LE ST BN LK n s28 sA P M) 3 1 = if lst then 1 else 0 := by
  unfold blockB
  rw [show 3 = 2 + (1 + 0) from rfl, fldH_skip _ _ 2 _ _ rfl, fldH_skip _ _ 1 _ _ rfl, fldH_head _ _ 1 rfl]
  cases lst <;> rfl
theorem bl4 (h : IX < 4294967296) : fldH (blockB K lst IX LE ST BN LK n s28 sA P M) 4 4 = IX := by
  unfold blockB
  rw [show fldH _ 4 4 = fldH _ (2 + (1 + (1 + 0))) 4 from rfl, fldH_skip _ _ 2 _ _ rfl, fldH_skip _ _ 1 _ _ rfl, fldH_skip _ _ 1 _ _ rfl, fldH_head _ _ _ (bytesLE_length _ _), le4 _ h]
theorem bl8 (h : LE < 4294967296) : fldH (blockB K lst IX LE ST BN LK n s28 sA P M) 8 4 = LE := by
  unfold blockB
  rw [show fldH _ 8 4 = fldH _ (2 + (1 + (1 + (4 + 0)))) 4 from rfl, fldH_skip _ _ 2 _ _ rfl, fldH_skip _ _ 1 _ _ rfl, fldH_skip _ _ 1 _ _ rfl, fldH_skip _ _ 4 _ _ (bytesLE_length _ _), fldH_head _ _ _ (bytesLE_length _ _), le4 _ h]
theorem bl12 (h : ST < 4294967296) : fldH (blockB K lst IX LE ST BN LK n s28 sA P M) 12 4 = ST := by
  unfold blockB
  rw [show fldH _ 12 4 = fldH _ (2 + (1 + (1 + (4 + (4 + 0))))) 4 from rfl, fldH_skip _ _ 2 _ _ rfl, fldH_skip _ _ 1 _ _ rfl, fldH_skip _ _ 1 _ _ rfl, fldH_skip _ _ 4 _ _ (bytesLE_length _ _), fldH_skip _ _ 4 _ _ (bytesLE_length _ _), fldH_head _ _ _ (bytesLE_length _ _), le4 _ h]
theorem bl16 (h : BN < 4294967296) : fldH (blockB K lst IX LE ST BN LK n s28 sA P M) 16 4 = BN := by
  unfold blockB
  rw [show fldH _ 16 4 = fldH _ (2 + (1 + (1 + (4 + (4 + (4 + 0)))))) 4 from rfl, fldH_skip _ _ 2 _ _ rfl, fldH_skip _ _ 1 _ _ rfl, fldH_skip _ _ 1 _ _ rfl, fldH_skip _ _ 4 _ _ (bytesLE_length _ _), fldH_skip _ _ 4 _ _ (bytesLE_length _ _), fldH_skip _ _ 4 _ _ (bytesLE_length _ _), fldH_head _ _ _ (bytesLE_length _ _), le4 _ h]
theorem bl20 (h : LK < 4294967296) : fldH (blockB K lst IX LE ST BN LK n s28 sA P M) 20 4 = LK := by
  unfold blockB
  rw [show fldH _ 20 4 = fldH _ (2 + (1 + (1 + (4 + (4 + (4 + (4 + 0))))))) 4 from rfl, fldH_skip _ _ 2 _ _ rfl, fldH_skip _ _ 1 _ _ rfl, fldH_skip _ _ 1 _ _ rfl, fldH_skip _ _ 4 _ _ (bytesLE_length _ _), fldH_skip _ _ 4 _ _ (bytesLE_length _ _), fldH_skip _ _ 4 _ _ (bytesLE_length _ _), fldH_skip _ _ 4 _ _ (bytesLE_length _ _), fldH_head _ _ _ (bytesLE_length _ _), le4 _ h]
theorem bl24 (h : n < 4294967296) : fldH (blockB K lst IX LE ST BN LK n s28 sA P M) 24 4 = n := by
  unfold blockB
  rw [show fldH _ 24 4 = fldH _ (2 + (1 + (1 + (4 + (4 + (4 + (4 + (4 + 0)))))))) 4 from rfl, fldH_skip _ _ 2 _ _ rfl, fldH_skip _ _ 1 _ _ rfl, fldH_skip _ _ 1 _ _ rfl, fldH_skip _ _ 4 _ _ (bytesLE_length _ _), fldH_skip _ _ 4 _ _ (bytesLE_length _ _), fldH_skip _ _ 4 _ _ (bytesLE_length _ _), fldH_skip _ _ 4 _ _ (bytesLE_length _ _), fldH_skip _ _ 4 _ _ (bytesLE_length _ _), fldH_head _ _ _ (bytesLE_length _ _), le4 _ h]
theorem bl_starts : startsH (blockB K lst IX LE ST BN LK n s28 sA P M) = true := by simp [startsH, blockB]
end
theorem openH_sealed (K IX LE ST BN LK : Nat) (lst : Bool) (P M : List UInt8) (hk : K < 256 ∧ IX < 4294967296 ∧ LE < 4294967296 ∧ ST < 4294967296 ∧ BN < 4294967296 ∧ LK < 4294967296 ∧ P.length < 4294967296) (hr : rightH K IX LE ST BN lst LK (P.length : Nat) = true) :
    getH (sealed (sealed (headHead K lst IX LE ST BN LK P.length) ++ P) ++ M) = (0, ⟨K, IX, LE, ST, BN, lst, LK, (P.length : Nat)⟩) ∧
    openH (sealed (sealed (headHead K lst IX LE ST BN LK P.length) ++ P) ++ M) = (0, ⟨K, IX, LE, ST, BN, lst, LK, (P.length : Nat)⟩, P, sumI (sealed (headHead K lst IX LE ST BN LK P.length) ++ P)) ∧
    fldH (sealed (sealed (headHead K lst IX LE ST BN LK P.length) ++ P) ++ M) 24 4 = P.length := by
  obtain ⟨h1, h2, h3, h4, h5, h6, h7⟩ := hk
  obtain ⟨G, hG⟩ : ∃ G, G = headHead K lst IX LE ST BN LK P.length := ⟨_, rfl⟩
  have hGl : G.length = 28 := by rw [hG]; exact headHead_len ..
  have hSl : (sealed G ++ P).length = 32 + P.length := by rw [List.length_append, sealed_len, hGl]
  obtain ⟨l, hl⟩ : ∃ l, l = sealed (sealed G ++ P) ++ M := ⟨_, rfl⟩
  have hb := block_is K lst IX LE ST BN LK P M
  rw [← hG, ← hl] at hb
  rw [← hG, ← hl]
  have hlen : l.length = 36 + P.length + M.length := by rw [hl, List.length_append, sealed_len, hSl]; omega
  have t28 : l.take 28 = G := by
    rw [hl]; unfold sealed; simp only [List.append_assoc]; exact List.take_left' hGl
  have f28 : fldH l 28 4 = (sumI G).toNat := by
    rw [hl]; unfold sealed; simp only [List.append_assoc]
    rw [show fldH (G ++ _) 28 4 = fldH (G ++ _) (28 + 0) 4 from rfl, fldH_skip _ _ 28 _ _ hGl, fldH_head _ _ _ (bytesLE_length _ _), le4 _ (by have := sumI_range G; omega)]
  have tA : l.take (32 + P.length) = sealed G ++ P := by
    rw [hl]; rw [sealed, List.append_assoc]; exact List.take_left' hSl
  have fA : fldH l (32 + P.length) 4 = (sumI (sealed G ++ P)).toNat := by
    rw [hl]; rw [sealed, List.append_assoc]
    rw [show fldH _ (32 + P.length) 4 = fldH _ (32 + P.length + 0) 4 from rfl, fldH_skip _ _ _ _ _ hSl, fldH_head _ _ _ (bytesLE_length _ _), le4 _ (by have := sumI_range (sealed G ++ P); omega)]
  have dP : (l.drop 32).take P.length = P := by
    rw [hl, sealed, List.append_assoc, List.append_assoc]
    exact fld_at (sealed G) P _ 32 P.length (by rw [sealed_len, hGl]) rfl
  have f2 : fldH l 2 1 = K := by rw [hb]; exact bl2 _ _ _ _ _ _ _ _ _ _ _ _ h1
  have f3 : fldH l 3 1 = if lst then 1 else 0 := by rw [hb]; exact bl3 ..
  have f4 : fldH l 4 4 = IX := by rw [hb]; exact bl4 _ _ _ _ _ _ _ _ _ _ _ _ h2
  have f8 : fldH l 8 4 = LE := by rw [hb]; exact bl8 _ _ _ _ _ _ _ _ _ _ _ _ h3
  have f12 : fldH l 12 4 = ST := by rw [hb]; exact bl12 _ _ _ _ _ _ _ _ _ _ _ _ h4
  have f16 : fldH l 16 4 = BN := by rw [hb]; exact bl16 _ _ _ _ _ _ _ _ _ _ _ _ h5
  have f20 : fldH l 20 4 = LK := by rw [hb]; exact bl20 _ _ _ _ _ _ _ _ _ _ _ _ h6
  have f24 : fldH l 24 4 = P.length := by rw [hb]; exact bl24 _ _ _ _ _ _ _ _ _ _ _ _ h7
  have hst : startsH l = true := by rw [hb]; exact bl_starts ..
  have hl3 : (fldH l 3 1 == 1) = lst := by rw [f3]; cases lst <;> rfl
  have hl3' : decide (fldH l 3 1 ≤ 1) = true := by rw [f3]; cases lst <;> rfl
  have hok : okH l = true := by unfold okH; rw [hl3, hl3', f2, f4, f8, f12, f16, f20, f24, hr]; rfl
  have hsd : saidH l = ⟨K, IX, LE, ST, BN, lst, LK, (P.length : Nat)⟩ := by unfold saidH; rw [hl3, f2, f4, f8, f12, f16, f20, f24]
  have hget : getH l = (0, ⟨K, IX, LE, ST, BN, lst, LK, (P.length : Nat)⟩) := by
    unfold getH
    rw [if_neg (by rw [hst]; simp), if_neg (by omega), if_neg (by rw [t28, f28]; have := sumI_range G; omega), if_neg (by rw [hok]; simp), hsd]
  refine ⟨hget, ?_, f24⟩
  unfold openH
  rw [hget, f24, tA, fA, dP, if_neg (by simp), if_neg (by omega), if_neg (by have := sumI_range (sealed G ++ P); omega)]
theorem valLE_inj {a b : List UInt8} (hl : a.length = b.length) (h : valLE a = valLE b) : a = b := by
  rw [← bytesLE_val a, ← bytesLE_val b, h, hl]
theorem fldH_set (l : List UInt8) (i p n : Nat) (y : UInt8) (h : p + n ≤ i ∨ i < p) : fldH (l.set i y) p n = fldH l p n := by
  unfold fldH
  rcases h with h | h
  · rw [List.drop_set, if_neg (by omega), List.take_set_of_le (by omega)]
  · rw [List.drop_set_of_lt h]
theorem sums_change (l : List UInt8) (m i : Nat) (y : UInt8) (hl : m + 4 ≤ l.length) (hi : i < m + 4) (h : sumI (l.take m) = (fldH l m 4 : Int)) (hy : y ≠ l[i]'(by omega)) : sumI ((l.set i y).take m) ≠ (fldH (l.set i y) m 4 : Int) := by
  by_cases him : i < m
  · rw [fldH_set _ _ _ _ _ (.inr him), ← h, List.take_set]
    exact sumI_change (l.take m) i (by rw [List.length_take]; omega) y (by rw [List.getElem_take]; exact hy)
  · rw [List.take_set_of_le (by omega), h]
    intro he
    have h1 : fldH l m 4 = fldH (l.set i y) m 4 := by omega
    unfold fldH at h1
    have h2 := valLE_inj (by simp) h1
    have h3 : ((l.drop m).take 4)[i - m]? = (((l.set i y).drop m).take 4)[i - m]? := by rw [← h2]
    rw [List.getElem?_take_of_lt (by omega), List.getElem?_take_of_lt (by omega), List.getElem?_drop, List.getElem?_drop, show m + (i - m) = i by omega, List.getElem?_set_self (by omega), List.getElem?_eq_getElem (by omega)] at h3
    injection h3 with h3
    exact hy h3.symm
theorem getH_set (l : List UInt8) (i : Nat) (y : UInt8) (hi : 32 ≤ i) : getH (l.set i y) = getH l := by
  have hs : startsH (l.set i y) = startsH l := by unfold startsH; rw [List.getElem?_set_ne (by omega), List.getElem?_set_ne (by omega)]
  have hok : okH (l.set i y) = okH l := by
    unfold okH
    rw [fldH_set _ _ 3 1 _ (.inl (by omega)), fldH_set _ _ 2 1 _ (.inl (by omega)), fldH_set _ _ 4 4 _ (.inl (by omega)), fldH_set _ _ 8 4 _ (.inl (by omega)), fldH_set _ _ 12 4 _ (.inl (by omega)), fldH_set _ _ 16 4 _ (.inl (by omega)), fldH_set _ _ 20 4 _ (.inl (by omega)), fldH_set _ _ 24 4 _ (.inl (by omega))]
  have hsd : saidH (l.set i y) = saidH l := by
    unfold saidH
    rw [fldH_set _ _ 3 1 _ (.inl (by omega)), fldH_set _ _ 2 1 _ (.inl (by omega)), fldH_set _ _ 4 4 _ (.inl (by omega)), fldH_set _ _ 8 4 _ (.inl (by omega)), fldH_set _ _ 12 4 _ (.inl (by omega)), fldH_set _ _ 16 4 _ (.inl (by omega)), fldH_set _ _ 20 4 _ (.inl (by omega)), fldH_set _ _ 24 4 _ (.inl (by omega))]
  unfold getH
  rw [hs, hok, hsd, List.length_set, List.take_set_of_le (by omega), fldH_set _ _ 28 4 _ (.inl (by omega))]
/-- a byte of a block changed -/
theorem open_changed (l : List UInt8) (n i : Nat) (y : UInt8) (hlen : l.length = 36 + n) (hg : (getH l).1 = 0) (hn : fldH l 24 4 = n) (hA : sumI (l.take (32 + n)) = (fldH l (32 + n) 4 : Int)) (hi : i < l.length) (hy : y ≠ l[i]) :
    ((openH (l.set i y)).1 != 0) = true ∧ ((getH (l.set i y)).1 != 0) = decide (i < 32) := by
  obtain ⟨_, _, h28, _, _⟩ := getH_ok hg
  by_cases h32 : i < 32
  · have hne : (getH (l.set i y)).1 ≠ 0 := fun h0 => by
      obtain ⟨_, _, h28', _, _⟩ := getH_ok h0
      exact sums_change l 28 i y (by omega) (by omega) h28 hy h28'
    refine ⟨?_, by rw [decide_eq_true h32]; simpa using hne⟩
    unfold openH
    rw [if_pos hne]
    simpa using hne
  · rw [getH_set l i y (by omega), hg]
    refine ⟨?_, by rw [decide_eq_false h32]; rfl⟩
    unfold openH
    rw [getH_set l i y (by omega), if_neg (by simpa using hg), fldH_set _ _ 24 4 _ (.inl (by omega)), hn, if_neg (by rw [List.length_set]; omega), if_pos (sums_change l (32 + n) i y (by omega) (by omega) hA hy)]
    rfl
end Go.Proofs.Ytffcebjamichdaa
