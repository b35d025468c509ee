/- Info that was laid is read, and the other way round. -/
import Derived.Test.YtkmhmehofipehaaDoorK15
import Derived.Test.YtkmhmehofipehaaDoorK12
import Derived.Test.YtkmhmehofipehaaDoorK3
import Derived.Test.YtkmhmehofipehaaDoorK16
import Derived.Test.YtkmhmehofipehaaDoorK14
import Derived.Test.YtkmhmehofipehaaDoorK7
import Derived.Deep.MidRow
import Derived.Laws.CopyRow
namespace Go.Proofs.YtkmhmehofipehaaDoor
set_option linter.unusedVariables false
open Go.RowKit
theorem getI_sealed (k ch bi ra bl sh : Nat) (b : List UInt8) (hr : rightI k ch bi ra bl sh = true) (hk : k < 256 ∧ ch < 256 ∧ bi < 256 ∧ sh < 256 ∧ ra < 16777216 ∧ bl < 4294967296) :
    getI (sealed (infoHead k ch bi sh ra bl) ++ b) = (0, (k : Int), (ch : Int), (bi : Int), (ra : Int), (bl : Int), (sh : Int)) := by
  obtain ⟨k1, k2, k3, k4, k5, k6⟩ := hk
  have hs := sumI_range (infoHead k ch bi sh ra bl)
  have hH : (infoHead k ch bi sh ra bl).length = 15 := by simp [infoHead, bytesLE_length]
  have e15 : (sealed (infoHead k ch bi sh ra bl) ++ b).take 15 = infoHead k ch bi sh ra bl := by
    unfold sealed; rw [List.append_assoc, List.take_append_of_le_length (by omega), List.take_of_length_le (by omega)]
  have eS : fld (sealed (infoHead k ch bi sh ra bl) ++ b) 15 4 = (sumI (infoHead k ch bi sh ra bl)).toNat := by
    unfold fld sealed
    rw [List.append_assoc, fld_at _ _ _ 15 4 hH (bytesLE_length _ _), valLE_of _ _ (by omega)]
  obtain ⟨S, hS⟩ : ∃ S, S = (sumI (infoHead k ch bi sh ra bl)).toNat := ⟨_, rfl⟩
  have eX : sealed (infoHead k ch bi sh ra bl) ++ b = [68, 83, 67, 49] ++ (bytesLE k 1 ++ (bytesLE ch 1 ++ (bytesLE bi 1 ++ (bytesLE sh 1 ++ (bytesLE ra 3 ++ (bytesLE bl 4 ++ (bytesLE S 4 ++ b))))))) := by
    unfold sealed; rw [← hS]; unfold infoHead; simp only [List.append_assoc]
  have hst : startsI (sealed (infoHead k ch bi sh ra bl) ++ b) = true := by
    rw [eX]; unfold startsI; simp [bytesLE_length]
  have hln : ¬ (sealed (infoHead k ch bi sh ra bl) ++ b).length < 19 := by
    rw [eX]; simp [bytesLE_length]; omega
  have f4 : fld (sealed (infoHead k ch bi sh ra bl) ++ b) 4 1 = k := by
    rw [eX]; unfold fld; rw [fld_at _ _ _ 4 1 rfl (bytesLE_length _ _), valLE_of _ _ (by omega)]
  have f5 : fld (sealed (infoHead k ch bi sh ra bl) ++ b) 5 1 = ch := by
    rw [eX]; unfold fld; rw [← List.append_assoc, fld_at _ _ _ 5 1 (by simp [bytesLE_length]) (bytesLE_length _ _), valLE_of _ _ (by omega)]
  have f6 : fld (sealed (infoHead k ch bi sh ra bl) ++ b) 6 1 = bi := by
    rw [eX]; unfold fld; rw [← List.append_assoc, ← List.append_assoc, fld_at _ _ _ 6 1 (by simp [bytesLE_length]) (bytesLE_length _ _), valLE_of _ _ (by omega)]
  have f7 : fld (sealed (infoHead k ch bi sh ra bl) ++ b) 7 1 = sh := by
    rw [eX]; unfold fld; rw [← List.append_assoc, ← List.append_assoc, ← List.append_assoc, fld_at _ _ _ 7 1 (by simp [bytesLE_length]) (bytesLE_length _ _), valLE_of _ _ (by omega)]
  have f8 : fld (sealed (infoHead k ch bi sh ra bl) ++ b) 8 3 = ra := by
    rw [eX]; unfold fld; rw [← List.append_assoc, ← List.append_assoc, ← List.append_assoc, ← List.append_assoc, fld_at _ _ _ 8 3 (by simp [bytesLE_length]) (bytesLE_length _ _), valLE_of _ _ (by omega)]
  have f11 : fld (sealed (infoHead k ch bi sh ra bl) ++ b) 11 4 = bl := by
    rw [eX]; unfold fld; rw [← List.append_assoc, ← List.append_assoc, ← List.append_assoc, ← List.append_assoc, ← List.append_assoc, fld_at _ _ _ 11 4 (by simp [bytesLE_length]) (bytesLE_length _ _), valLE_of _ _ (by omega)]
  unfold getI saidI
  rw [hst, e15, eS, f4, f5, f6, f7, f8, f11, hr]
  rw [if_neg (by simp), if_neg hln, if_neg (by omega), if_neg (by simp)]
theorem getI_bad (b : List UInt8) (h : (getI b).1 ≠ 0) : ∃ er, er ≠ 0 ∧ getI b = (er, 0, 0, 0, 0, 0, 0) := by
  unfold getI at h ⊢
  split
  · exact ⟨_, by omega, rfl⟩
  · split
    · exact ⟨_, by omega, rfl⟩
    · split
      · exact ⟨_, by omega, rfl⟩
      · split
        · exact ⟨_, by omega, rfl⟩
        · exfalso; rename_i h1 h2 h3 h4
          rw [if_neg h1, if_neg h2, if_neg h3, if_neg h4] at h
          exact h rfl
theorem fld_back (b : List UInt8) (p n : Nat) (h : p + n ≤ b.length) : bytesLE (fld b p n) n = (b.drop p).take n := by
  have hl : ((b.drop p).take n).length = n := by simp; omega
  have := bytesLE_val ((b.drop p).take n)
  rw [hl] at this
  exact this
theorem getI_good (b : List UInt8) (h : (getI b).1 = 0) : ∃ k ch bi ra bl sh : Nat, getI b = (0, (k : Int), (ch : Int), (bi : Int), (ra : Int), (bl : Int), (sh : Int)) ∧ rightI k ch bi ra bl sh = true ∧
    (k < 256 ∧ ch < 256 ∧ bi < 256 ∧ sh < 256 ∧ ra < 16777216 ∧ bl < 4294967296) ∧ sealed (infoHead k ch bi sh ra bl) = b.take 19 ∧ 19 ≤ b.length := by
  by_cases h1 : startsI b = false
  · unfold getI at h; rw [if_pos h1] at h; simp at h
  by_cases h2 : b.length < 19
  · unfold getI at h; rw [if_neg h1, if_pos h2] at h; simp at h
  by_cases h3 : sumI (b.take 15) ≠ (fld b 15 4 : Int)
  · unfold getI at h; rw [if_neg h1, if_neg h2, if_pos h3] at h; simp at h
  by_cases h4 : rightI (fld b 4 1) (fld b 5 1) (fld b 6 1) (fld b 8 3) (fld b 11 4) (fld b 7 1) = false
  · unfold getI at h; rw [if_neg h1, if_neg h2, if_neg h3, if_pos h4] at h; simp at h
  have hst : b.take 4 = [68, 83, 67, 49] := by
    have e : startsI b = true := by simpa using h1
    have := of_decide_eq_true e
    rw [this, List.take_of_length_le (by simp; omega)]
  have hlt : fld b 4 1 < 256 ∧ fld b 5 1 < 256 ∧ fld b 6 1 < 256 ∧ fld b 7 1 < 256 ∧ fld b 8 3 < 16777216 ∧ fld b 11 4 < 4294967296 := ⟨fld_lt b 4 1, fld_lt b 5 1, fld_lt b 6 1, fld_lt b 7 1, fld_lt b 8 3, fld_lt b 11 4⟩
  have t : ∀ p n, b.take p ++ (b.drop p).take n = b.take (p + n) := fun p n => List.take_add.symm
  have e15 : infoHead (fld b 4 1) (fld b 5 1) (fld b 6 1) (fld b 7 1) (fld b 8 3) (fld b 11 4) = b.take 15 := by
    unfold infoHead
    rw [fld_back b 4 1 (by omega), fld_back b 5 1 (by omega), fld_back b 6 1 (by omega), fld_back b 7 1 (by omega), fld_back b 8 3 (by omega), fld_back b 11 4 (by omega), ← hst, t 4 1, t 5 1, t 6 1, t 7 1, t 8 3, t 11 4]
  refine ⟨fld b 4 1, fld b 5 1, fld b 6 1, fld b 8 3, fld b 11 4, fld b 7 1, ?_, by simpa using h4, hlt, ?_, by omega⟩
  · unfold getI; rw [if_neg h1, if_neg h2, if_neg h3, if_neg h4]; rfl
  · have hS : (sumI (b.take 15)).toNat = fld b 15 4 := by omega
    unfold sealed
    rw [e15, hS, fld_back b 15 4 (by omega), t 15 4]
end Go.Proofs.YtkmhmehofipehaaDoor
/- Files taken apart, plainly: what their bytes say. -/
namespace Go.Proofs.YtkmhmehofipehaaDoor
set_option linter.unusedVariables false
open Go.RowKit
/-- the info that bytes say -/
def infoOf (l : List UInt8) : InfoV := ⟨(getI l).2.1, (getI l).2.2.1, (getI l).2.2.2.1, (getI l).2.2.2.2.1, (getI l).2.2.2.2.2.1, (getI l).2.2.2.2.2.2⟩
/-- a block that was read, and where it begins -/
structure BlkP where
  h : HeadV
  p : List UInt8
  sum : Int
  at_ : Nat
/-- what is known of a file's blocks while it is read -/
structure PS where
  pl : List Int
  cnt : Int
  short : Bool
  at_ : Nat
  bl : List BlkP
def PS.next (i : InfoV) (s : PS) (r : Int × HeadV × List UInt8 × Int) : PS :=
  ⟨s.pl ++ [(s.at_ : Int)], s.cnt + r.2.1.len, decide (r.2.1.len < i.bl), s.at_ + (36 + r.2.1.siz.toNat), s.bl ++ [⟨r.2.1, r.2.2.1, r.2.2.2, s.at_⟩]⟩
def blkE (i : InfoV) (b : List UInt8) (s : PS) : Int :=
  if b.length ≤ s.at_ then 10 else if (openH (b.drop s.at_)).1 ≠ 0 then (openH (b.drop s.at_)).1 else nextE i (openH (b.drop s.at_)).2.1 s.pl.length s.short
def loopP (i : InfoV) (b : List UInt8) : Nat → PS → Int × PS
  | 0, s => (0, s)
  | n + 1, s => if b[s.at_]? = some 69 then (0, s) else if blkE i b s ≠ 0 then (blkE i b s, s) else loopP i b n (s.next i (openH (b.drop s.at_)))
/-- a file that was read -/
structure FileV where
  i : InfoV
  l : List TagV
  bl : List BlkP
  cnt : Int
  sum : Int
  pl : List Int
def InfoV.zero : InfoV := ⟨0, 0, 0, 0, 0, 0⟩
def FileV.zero : FileV := ⟨InfoV.zero, [], [], 0, 0, []⟩
def tailE (b : List UInt8) (s : PS) : Int :=
  if (getT (b.drop s.at_)).1 ≠ 0 then (getT (b.drop s.at_)).1 else if s.at_ + (getT (b.drop s.at_)).2.1.toNat < b.length then 62
  else if (getT (b.drop s.at_)).2.2.1 ≠ s.cnt then 61 else if (getT (b.drop s.at_)).2.2.2.2 ≠ s.pl then 60 else 0
def finP (i : InfoV) (l : List TagV) (b : List UInt8) (r : Int × PS) : Int × FileV :=
  if r.1 ≠ 0 then (r.1, FileV.zero) else if tailE b r.2 ≠ 0 then (tailE b r.2, FileV.zero)
  else (0, ⟨i, l, r.2.bl, (getT (b.drop r.2.at_)).2.2.1, (getT (b.drop r.2.at_)).2.2.2.1, (getT (b.drop r.2.at_)).2.2.2.2⟩)
def begP (n : Nat) : PS := ⟨[], 0, false, 19 + n, []⟩
def parseF (b : List UInt8) : Int × FileV :=
  if (getI b).1 ≠ 0 then ((getI b).1, FileV.zero) else if (getG (b.drop 19)).1 ≠ 0 then ((getG (b.drop 19)).1, FileV.zero)
  else finP (infoOf b) (getG (b.drop 19)).2.2 b (loopP (infoOf b) b (b.length + 1) (begP (getG (b.drop 19)).2.1))
/-! what bytes say of blocks that stand ahead of others -/
theorem fldH_app (l M : List UInt8) (p n : Nat) (h : p + n ≤ l.length) : fldH (l ++ M) p n = fldH l p n := by
  unfold fldH
  rw [List.drop_append_of_le_length (by omega), List.take_append_of_le_length (by simp; omega)]
theorem fldH_take (l : List UInt8) (m p n : Nat) (h : p + n ≤ m) : fldH (l.take m) p n = fldH l p n := by
  unfold fldH
  rw [List.drop_take, List.take_take, Nat.min_eq_left (by omega)]
theorem startsH_app {l : List UInt8} (M : List UInt8) (h : 2 ≤ l.length) : startsH (l ++ M) = startsH l := by
  unfold startsH
  rw [List.getElem?_append_left (by omega), List.getElem?_append_left (by omega)]
theorem okH_app {l : List UInt8} (M : List UInt8) (h : 32 ≤ l.length) : okH (l ++ M) = okH l := by
  unfold okH
  simp only [fldH_app l M _ _ (show 2 + 1 ≤ l.length by omega), fldH_app l M _ _ (show 3 + 1 ≤ l.length by omega), fldH_app l M _ _ (show 4 + 4 ≤ l.length by omega), fldH_app l M _ _ (show 8 + 4 ≤ l.length by omega), fldH_app l M _ _ (show 12 + 4 ≤ l.length by omega), fldH_app l M _ _ (show 16 + 4 ≤ l.length by omega), fldH_app l M _ _ (show 20 + 4 ≤ l.length by omega), fldH_app l M _ _ (show 24 + 4 ≤ l.length by omega)]
theorem saidH_app {l : List UInt8} (M : List UInt8) (h : 32 ≤ l.length) : saidH (l ++ M) = saidH l := by
  unfold saidH
  simp only [fldH_app l M _ _ (show 2 + 1 ≤ l.length by omega), fldH_app l M _ _ (show 3 + 1 ≤ l.length by omega), fldH_app l M _ _ (show 4 + 4 ≤ l.length by omega), fldH_app l M _ _ (show 8 + 4 ≤ l.length by omega), fldH_app l M _ _ (show 12 + 4 ≤ l.length by omega), fldH_app l M _ _ (show 16 + 4 ≤ l.length by omega), fldH_app l M _ _ (show 20 + 4 ≤ l.length by omega), fldH_app l M _ _ (show 24 + 4 ≤ l.length by omega)]
theorem getH_app {l : List UInt8} (M : List UInt8) (h : 32 ≤ l.length) : getH (l ++ M) = getH l := by
  unfold getH
  rw [startsH_app M (by omega), okH_app M h, saidH_app M h, fldH_app l M 28 4 (by omega), List.take_append_of_le_length (by omega), List.length_append]
  by_cases h1 : startsH l = false
  · rw [if_pos h1, if_pos h1]
  · rw [if_neg h1, if_neg h1, if_neg (show ¬ l.length + M.length < 32 by omega), if_neg (show ¬ l.length < 32 by omega)]
theorem openH_app {l : List UInt8} (M : List UInt8) (h : (openH l).1 = 0) : openH (l ++ M) = openH l := by
  obtain ⟨hl, _, hs⟩ := openH_fine h
  have h32 : (getH l).1 = 0 := by
    unfold openH at h
    by_cases h1 : (getH l).1 ≠ 0
    · rw [if_pos h1] at h; exact absurd h h1
    · simpa using h1
  obtain ⟨_, h32', _, _, _⟩ := getH_ok h32
  have hn : ¬ l.length < 36 + fldH l 24 4 := by
    intro h2
    unfold openH at h
    rw [if_neg (by rw [h32]; simp), if_pos h2] at h
    exact absurd h (by decide)
  have e1 : openH l = if sumI (l.take (32 + fldH l 24 4)) ≠ (fldH l (32 + fldH l 24 4) 4 : Int) then (33, HeadV.zero, [], 0) else (0, (getH l).2, (l.drop 32).take (fldH l 24 4), sumI (l.take (32 + fldH l 24 4))) := by
    unfold openH
    rw [if_neg (by rw [h32]; simp), if_neg hn]
  rw [e1]
  unfold openH
  rw [getH_app M h32', fldH_app l M 24 4 (by omega), if_neg (by rw [h32]; simp), if_neg (by rw [List.length_append]; omega), fldH_app l M (32 + fldH l 24 4) 4 (by omega), List.take_append_of_le_length (by omega), List.drop_append_of_le_length (by omega), List.take_append_of_le_length (by simp; omega)]
theorem openH_siz {l : List UInt8} (h : (openH l).1 = 0) : (openH l).2.1.siz = (fldH l 24 4 : Nat) ∧ (getH l).1 = 0 := by
  unfold openH at h ⊢
  by_cases h1 : (getH l).1 ≠ 0
  · rw [if_pos h1] at h; exact absurd h h1
  · rw [if_neg h1] at h ⊢
    obtain ⟨_, _, _, _, hsd⟩ := getH_ok (by simpa using h1)
    refine ⟨?_, by simpa using h1⟩
    by_cases h2 : l.length < 36 + fldH l 24 4
    · rw [if_pos h2] at h; exact absurd h (by decide)
    · rw [if_neg h2] at h ⊢
      by_cases h3 : sumI (l.take (32 + fldH l 24 4)) ≠ (fldH l (32 + fldH l 24 4) 4 : Int)
      · rw [if_pos h3] at h; exact absurd h (by decide)
      · rw [if_neg h3, hsd]
        rfl
/-- of a block that is cut, something is missing -/
theorem openH_cut {l : List UInt8} (h : (openH l).1 = 0) (hlen : l.length = 36 + (openH l).2.1.siz) {n : Nat} (hn : n < l.length) : (openH (l.take n)).1 = 10 := by
  obtain ⟨hsz, hg⟩ := openH_siz h
  obtain ⟨hst, h32, hsm, hok, hsd⟩ := getH_ok hg
  have hst2 : startsH (l.take n) = true := by
    unfold startsH at hst ⊢
    have e0 : 0 < l.length := by omega
    have e1 : 1 < l.length := by omega
    rw [List.getElem?_eq_getElem e0, List.getElem?_eq_getElem e1] at hst
    rcases n with _ | _ | n
    · simp
    · rw [List.getElem?_take_of_lt (by omega), List.getElem?_eq_getElem e0, List.getElem?_eq_none (by rw [List.length_take]; omega)]
      simp at hst ⊢
      exact hst.1
    · rw [List.getElem?_take_of_lt (by omega), List.getElem?_take_of_lt (by omega), List.getElem?_eq_getElem e0, List.getElem?_eq_getElem e1]
      exact hst
  by_cases h1 : n < 32
  · have : getH (l.take n) = (10, HeadV.zero) := by unfold getH; rw [if_neg (by rw [hst2]; simp), if_pos (by simp; omega)]
    unfold openH
    rw [this, if_pos (by simp)]
  · have e : getH l = getH (l.take n) := by
      conv => lhs; rw [← List.take_append_drop n l]
      exact getH_app _ (by simp; omega)
    unfold openH
    rw [← e, if_neg (by rw [hg]; simp), fldH_take l n 24 4 (by omega), if_pos (by simp; omega)]
theorem openH_first {l : List UInt8} (h : (openH l).1 = 0) : l[0]? = some 222 := by
  obtain ⟨_, hg⟩ := openH_siz h
  obtain ⟨hst, h32, _, _, _⟩ := getH_ok hg
  unfold startsH at hst
  rw [List.getElem?_eq_getElem (show 0 < l.length by omega)] at hst ⊢
  simp at hst
  rw [hst.1]
/-! what is built is parsed -/
def PS.of (s : FileS) (bl : List BlkP) : PS := ⟨s.pl, s.cnt, s.short, s.out.length, bl⟩
def readB : List (List UInt8) → Nat → List BlkP
  | [], _ => []
  | b :: bs, p => ⟨(openH b).2.1, (openH b).2.2.1, (openH b).2.2.2, p⟩ :: readB bs (p + b.length)
theorem addAll_out {i : InfoV} : ∀ (bs : List (List UInt8)) (s : FileS), (addAll i bs s).1 = 0 → (addAll i bs s).2.out = s.out ++ bs.flatten
  | [], s, _ => by simp [addAll]
  | b :: bs, s, he => by
    unfold addAll at he ⊢
    by_cases h1 : (addE i s b).1 = 0
    · rw [if_neg (by rw [h1]; simp)] at he ⊢
      rw [addAll_out bs _ he, (addE_ok h1).2.2.2]
      simp
    · rw [if_pos h1] at he
      exact absurd he h1
theorem blk_here {i : InfoV} {s : FileS} {b : List UInt8} (h : (addE i s b).1 = 0) (bl : List BlkP) (M : List UInt8) :
    (s.out ++ (b ++ M))[(PS.of s bl).at_]? ≠ some 69 ∧ blkE i (s.out ++ (b ++ M)) (PS.of s bl) = 0 ∧ (PS.of s bl).next i (openH ((s.out ++ (b ++ M)).drop (PS.of s bl).at_)) = PS.of (addE i s b).2 (bl ++ readB [b] s.out.length) := by
  obtain ⟨h1, h2, h3, h4⟩ := addE_ok h
  have h5 := (openH_fine h1).2.2
  have hd : (s.out ++ (b ++ M)).drop s.out.length = b ++ M := List.drop_left
  have ho := openH_app M h1
  refine ⟨?_, ?_, ?_⟩
  · show (s.out ++ (b ++ M))[s.out.length]? ≠ some 69
    rw [List.getElem?_append_right (Nat.le_refl _), Nat.sub_self, List.getElem?_append_left (by omega), openH_first h1]
    decide
  · unfold blkE
    rw [show (PS.of s bl).at_ = s.out.length from rfl, hd, ho, if_neg (by simp only [List.length_append]; omega), if_neg (by rw [h1]; simp)]
    exact h3
  · unfold PS.next
    show (⟨s.pl ++ [(s.out.length : Int)], s.cnt + (openH ((s.out ++ (b ++ M)).drop s.out.length)).2.1.len, _, _, _⟩ : PS) = _
    rw [show (PS.of s bl).at_ = s.out.length from rfl, hd, ho, h4]
    unfold PS.of readB
    simp only [List.length_append]
    rw [show 36 + (openH b).2.1.siz.toNat = b.length by omega]
    rfl
theorem loop_here {i : InfoV} : ∀ (bs : List (List UInt8)) (s : FileS) (bl : List BlkP) (M : List UInt8) (n : Nat), (addAll i bs s).1 = 0 → loopP i (s.out ++ (bs.flatten ++ M)) (bs.length + n) (PS.of s bl) = loopP i (s.out ++ (bs.flatten ++ M)) n (PS.of (addAll i bs s).2 (bl ++ readB bs s.out.length))
  | [], s, bl, M, n, _ => by simp [addAll, readB]
  | b :: bs, s, bl, M, n, he => by
    unfold addAll at he ⊢
    by_cases h1 : (addE i s b).1 = 0
    · rw [if_neg (by rw [h1]; simp)] at he ⊢
      obtain ⟨g1, g2, g3⟩ := blk_here h1 bl (bs.flatten ++ M)
      have e : s.out ++ ((b :: bs).flatten ++ M) = s.out ++ (b ++ (bs.flatten ++ M)) := by simp
      rw [e, List.length_cons, show bs.length + 1 + n = (bs.length + n) + 1 by omega, loopP, if_neg g1, if_neg (by rw [g2]; simp), g3]
      have e2 : s.out ++ (b ++ (bs.flatten ++ M)) = (addE i s b).2.out ++ (bs.flatten ++ M) := by rw [(addE_ok h1).2.2.2]; simp
      rw [e2, loop_here bs _ _ M n he]
      have e3 : readB (b :: bs) s.out.length = readB [b] s.out.length ++ readB bs (addE i s b).2.out.length := by
        rw [(addE_ok h1).2.2.2]; simp [readB]
      rw [e3, List.append_assoc]
    · rw [if_pos h1] at he
      exact absurd he h1
/-- of blocks that are cut somewhere, one is missing -/
theorem loop_cut {i : InfoV} : ∀ (bs : List (List UInt8)) (s : FileS) (bl : List BlkP) (M : List UInt8) (n k : Nat), (addAll i bs s).1 = 0 → k < bs.flatten.length → k ≤ n → (loopP i ((s.out ++ (bs.flatten ++ M)).take (s.out.length + k)) (n + 1) (PS.of s bl)).1 = 10
  | [], s, bl, M, n, k, _, hk, _ => by simp at hk
  | b :: bs, s, bl, M, n, k, he, hk, hn => by
    unfold addAll at he
    by_cases h1 : (addE i s b).1 = 0
    · rw [if_neg (by rw [h1]; simp)] at he
      obtain ⟨q1, q2, q3, q4⟩ := addE_ok h1
      have q5 := (openH_fine q1).2.2
      have e : s.out ++ ((b :: bs).flatten ++ M) = s.out ++ (b ++ (bs.flatten ++ M)) := by simp
      rw [e]
      by_cases hkb : k < b.length
      · have et : (s.out ++ (b ++ (bs.flatten ++ M))).take (s.out.length + k) = s.out ++ b.take k := by
          rw [List.take_length_add_append, List.take_append_of_le_length (by omega)]
        rw [et, loopP]
        have hd : (s.out ++ b.take k).drop s.out.length = b.take k := List.drop_left
        have hb : blkE i (s.out ++ b.take k) (PS.of s bl) = 10 := by
          unfold blkE
          rw [show (PS.of s bl).at_ = s.out.length from rfl, hd]
          by_cases h0 : (s.out ++ b.take k).length ≤ s.out.length
          · rw [if_pos h0]
          · rw [if_neg h0, if_pos (by rw [openH_cut q1 q2 hkb]; decide), openH_cut q1 q2 hkb]
        rw [if_neg, if_pos (by rw [hb]; decide), hb]
        show (s.out ++ b.take k)[s.out.length]? ≠ some 69
        rw [List.getElem?_append_right (Nat.le_refl _), Nat.sub_self]
        rcases k with _ | k
        · simp
        · rw [List.getElem?_take_of_lt (by omega), openH_first q1]
          decide
      · have e2 : s.out ++ (b ++ (bs.flatten ++ M)) = (addE i s b).2.out ++ (bs.flatten ++ M) := by rw [q4]; simp
        have el : s.out.length + k = (addE i s b).2.out.length + (k - b.length) := by rw [q4]; simp; omega
        obtain ⟨X, hX⟩ : ∃ X, (s.out ++ (b ++ (bs.flatten ++ M))).take (s.out.length + k) = s.out ++ (b ++ X) := by
          refine ⟨(bs.flatten ++ M).take (k - b.length), ?_⟩
          rw [List.take_length_add_append, show k = b.length + (k - b.length) by omega, List.take_length_add_append, show b.length + (k - b.length) - b.length = k - b.length by omega]
        obtain ⟨g1, g2, g3⟩ := blk_here h1 bl X
        rw [hX, loopP, if_neg g1, if_neg (by rw [g2]; simp), g3, ← hX, e2, el]
        obtain ⟨m, rfl⟩ : ∃ m, n = m + 1 := ⟨n - 1, by omega⟩
        exact loop_cut bs _ _ M m _ he (by rw [List.flatten_cons, List.length_append] at hk; omega) (by omega)
    · rw [if_pos h1] at he
      exact absurd he h1
end Go.Proofs.YtkmhmehofipehaaDoor
/- Tags read behind an error, plainly. -/
namespace Go.Proofs.YtkmhmehofipehaaDoor
set_option linter.unusedVariables false
open Go.RowKit
theorem textR_err (s : Int × Nat) (b : List UInt8) (n : Int) (h : s.1 ≠ 0) : textR s b n = (s, []) := by unfold textR; rw [if_pos h]
theorem stepG_err (b : List UInt8) (s : Int × Nat) (h : s.1 ≠ 0) : (stepG b s).1 = s := by
  unfold stepG
  rw [textR_err s b 1 h]
  simp only
  rw [textR_err s b 2 h]
theorem finG_err (b : List UInt8) (r : (Int × Nat) × List TagV) (h : r.1.1 ≠ 0) : finG b r = (r.1.1, 0, []) := by
  obtain ⟨⟨e, p⟩, L⟩ := r
  unfold finG
  simp only at h ⊢
  rw [gU_err e p 4 b h]
  unfold endG
  rw [if_pos h]
end Go.Proofs.YtkmhmehofipehaaDoor
/- What is read as tags is laid as it was, plainly. -/
namespace Go.Proofs.YtkmhmehofipehaaDoor
set_option linter.unusedVariables false
open Go.RowKit
theorem textR_ok {b t : List UInt8} {p p2 : Nat} {n : Nat} (hn : 1 ≤ n ∧ n ≤ 8) (h : textR (0, p) b (n : Int) = ((0, p2), t)) (hp : p ≤ b.length) : p2 = p + n + t.length ∧ p2 ≤ b.length ∧ b.take p2 = b.take p ++ (bytesLE t.length n ++ t) := by
  unfold textR at h
  rw [if_neg (by simp)] at h
  by_cases hu : (takeU (0, p) b (n : Int)).1.1 = 0
  · rw [if_neg (by rw [hu]; simp)] at h
    obtain ⟨_, _, _, hg, hle⟩ := takeU_good hu
    rw [hg] at h
    simp only [Int.toNat_natCast] at h hle
    by_cases hl : b.length - (p + n) < valLE ((b.drop p).take n)
    · rw [if_pos hl] at h
      simp at h
    · rw [if_neg hl] at h
      simp only [Prod.mk.injEq, true_and] at h
      obtain ⟨h1, h2⟩ := h
      have hX : ((b.drop p).take n).length = n := by simp; omega
      have hV := bytesLE_val ((b.drop p).take n)
      rw [hX] at hV
      generalize valLE ((b.drop p).take n) = V at *
      have htl : t.length = V := by rw [← h2]; simp; omega
      refine ⟨by omega, by omega, ?_⟩
      rw [htl, hV, ← h1, List.take_add, List.take_add, ← h2, List.append_assoc]
  · rw [if_pos (by simpa using hu)] at h
    simp only [Prod.mk.injEq] at h
    exact absurd h.1.1 hu
theorem stepG_ok {b : List UInt8} {p : Nat} {s2 : Int × Nat} {x : TagV} (h : stepG b (0, p) = (s2, x)) (h0 : s2.1 = 0) (hp : p ≤ b.length) : s2.2 ≤ b.length ∧ b.take s2.2 = b.take p ++ oneB x := by
  unfold stepG at h
  obtain ⟨⟨⟨e1, p1⟩, x1⟩, hr1⟩ : ∃ r, textR (0, p) b 1 = r := ⟨_, rfl⟩
  rw [hr1] at h
  simp only at h
  obtain ⟨⟨⟨e2, p2⟩, x2⟩, hr2⟩ : ∃ r, textR (e1, p1) b 2 = r := ⟨_, rfl⟩
  rw [hr2] at h
  simp only [Prod.mk.injEq] at h
  obtain ⟨rfl, rfl⟩ := h
  simp only at h0
  subst h0
  have he1 : e1 = 0 := by
    by_cases he : e1 = 0
    · exact he
    · rw [textR_err (e1, p1) b 2 he] at hr2
      simp only [Prod.mk.injEq] at hr2
      exact hr2.1.1
  subst he1
  obtain ⟨q1, q2, q3⟩ := textR_ok (n := 1) (by omega) hr1 hp
  obtain ⟨q4, q5, q6⟩ := textR_ok (n := 2) (by omega) hr2 q2
  refine ⟨q5, ?_⟩
  show b.take p2 = _
  rw [q6, q3]
  unfold oneB
  simp
theorem loopG_ok (b : List UInt8) : ∀ (n p : Nat) (acc : List TagV) (s2 : Int × Nat) (l : List TagV), loopG b n (0, p) acc = (s2, l) → s2.1 = 0 → p ≤ b.length →
    s2.2 ≤ b.length ∧ ∃ l2, l = acc ++ l2 ∧ l2.length = n ∧ b.take s2.2 = b.take p ++ itemsB l2
  | 0, p, acc, s2, l, h, h0, hp => by
    rw [loopG] at h
    simp only [Prod.mk.injEq] at h
    obtain ⟨rfl, rfl⟩ := h
    exact ⟨hp, [], by simp, rfl, by simp [itemsB]⟩
  | n + 1, p, acc, s2, l, h, h0, hp => by
    rw [loopG] at h
    by_cases he : (stepG b (0, p)).1.1 ≠ 0
    · rw [if_pos he] at h
      simp only [Prod.mk.injEq] at h
      obtain ⟨rfl, rfl⟩ := h
      exact absurd h0 he
    · rw [if_neg he] at h
      obtain ⟨⟨⟨e1, p1⟩, x⟩, hr⟩ : ∃ r, stepG b (0, p) = r := ⟨_, rfl⟩
      rw [hr] at h he
      simp only [ne_eq, Decidable.not_not] at h he
      subst he
      obtain ⟨q1, q2⟩ := stepG_ok hr rfl hp
      simp only at q1 q2
      obtain ⟨z1, l2, z2, z3, z4⟩ := loopG_ok b n p1 (acc ++ [x]) s2 l h h0 q1
      exact ⟨z1, x :: l2, by rw [z2]; simp, by rw [List.length_cons, z3], by rw [z4, q2]; simp [itemsB]⟩
theorem put_getG (b : List UInt8) {n : Nat} {l : List TagV} (h : getG b = (0, n, l)) : (checkT l).2 = 0 ∧ n ≤ b.length ∧ sealed (tagsB l) = b.take n := by
  unfold getG at h
  by_cases hs : startsG b = false
  · rw [if_pos hs] at h; simp at h
  rw [if_neg hs] at h
  by_cases h3 : b.length < 3
  · rw [if_pos h3] at h; simp at h
  rw [if_neg h3] at h
  obtain ⟨⟨⟨e, p⟩, L⟩, hr⟩ : ∃ r, loopG b (countG b) (0, 3) [] = r := ⟨_, rfl⟩
  rw [hr] at h
  by_cases he : e = 0
  case neg => rw [finG_err b _ he] at h; simp only [Prod.mk.injEq] at h; exact absurd h.1 he
  subst he
  obtain ⟨q1, l2, q2, q3, q4⟩ := loopG_ok b _ 3 [] _ _ hr rfl (by omega)
  simp only [List.nil_append] at q1 q2 q4
  subst q2
  unfold finG at h
  simp only at h
  unfold endG at h
  by_cases hu : (takeU (0, p) b 4).1.1 = 0
  case neg => rw [if_pos hu] at h; simp only [Prod.mk.injEq] at h; exact absurd h.1 hu
  rw [if_neg (by rw [hu]; simp)] at h
  obtain ⟨_, _, _, hg, hle⟩ := takeU_good hu
  have hg' : takeU (0, p) b 4 = ((0, p + 4), (b.drop p).take 4) := hg
  have hle' : 4 ≤ b.length - p := hle
  rw [hg'] at h
  simp only at h
  by_cases hv : valLE ((b.drop p).take 4) = (sumI (b.take p)).toNat
  case neg => rw [if_pos hv] at h; simp at h
  rw [if_neg (by rw [hv]; simp)] at h
  by_cases hc : (checkT L).2 = 0
  case neg => rw [if_pos hc] at h; simp only [Prod.mk.injEq] at h; exact absurd h.1 hc
  rw [if_neg (by rw [hc]; simp)] at h
  simp only [Prod.mk.injEq, true_and] at h
  obtain ⟨rfl, rfl⟩ := h
  refine ⟨hc, by omega, ?_⟩
  have hhead : headB L = b.take 3 := by
    unfold headB
    rw [q3]
    match b, h3 with
    | x :: y :: z :: t, _ =>
      have hs' : startsG (x :: y :: z :: t) = true := by simpa using hs
      simp [startsG] at hs'
      simp [countG, valLE, hs'.1, hs'.2]
    | [], h3 => exact absurd (show ([] : List UInt8).length < 3 by simp) h3
    | [x], h3 => exact absurd (show [x].length < 3 by simp) h3
    | [x, y], h3 => exact absurd (show [x, y].length < 3 by simp) h3
  have ht : tagsB L = b.take p := by
    unfold tagsB
    rw [hhead, q4]
  have hX : ((b.drop p).take 4).length = 4 := by simp; omega
  have hV := bytesLE_val ((b.drop p).take 4)
  rw [hX] at hV
  unfold sealed
  rw [ht, ← hv, hV, List.take_add]
end Go.Proofs.YtkmhmehofipehaaDoor
/- A struct by value out of, and into, the middle of a block that is known whole. -/
namespace Go.Proofs.YtkmhmehofipehaaDoor
set_option linter.unusedVariables false
open Go.RowKit
section
variable {P : Program}
theorem run_storeVar_part (w : World) (g o : Nat) (t ty : TypeId) (cur cells new : Array Value) (hg : w.heap[g]? = some (.cells cur t (0, 0))) (hi : (P.info? ty).map (·.size) = some cells.size)
    (hfit : o + cells.size ≤ cur.size) (h1 : cells.all (·.oneCell') = true) (hn : (cur.toList.take o ++ cells.toList ++ cur.toList.drop (o + cells.size)).toArray = new) :
    (storeVar ty ⟨g, o, none⟩ (.agg cells)).run P w = .ok () (w.setRow g new) := by
  have := run_storeCells_at P g o t cells.toList 0 cur w hg (by simpa using hfit) (fun v hv => (Array.all_eq_true_iff_forall_mem.1 h1) v (by simpa using hv))
  cases hq : P.info? ty with
  | none => simp [hq] at hi
  | some i =>
    have hs : cells.size = i.size := by simp [hq] at hi; omega
    subst hn
    simp only [Nat.add_zero, Array.length_toList] at this
    simp [storeVar, sizeOf, typeInfo, hq, Value.cells, hs, this]
theorem wp_store_part {op : Oper} {a : Act} {w : World} {K : Act → World → Prop} {Q : Exit → Act → World → Prop} (ty : TypeId) (x y : Operand) (ho : op.op = .store ty x y) (hd : op.dst = none)
    (g o : Nat) (hx : a.eval x = .pointer (some ⟨g, o, none⟩)) (cells : Array Value) (hy : a.eval y = .agg cells) (t : TypeId) (cur new : Array Value) (hg : w.heap[g]? = some (.cells cur t (0, 0)))
    (hi : (P.info? ty).map (·.size) = some cells.size) (hfit : o + cells.size ≤ cur.size) (h1 : cells.all (·.oneCell') = true) (hn : (cur.toList.take o ++ cells.toList ++ cur.toList.drop (o + cells.size)).toArray = new)
    (h : K a (w.setRow g new)) : op.wp P a w K Q := by
  unfold Oper.wp execOp
  simp only [ho, hx, hy, Instr.storeAt, Instr.sureAddr, Sem.run_bind, Sem.run_pure, Result.andThen_ok, run_storeVar_part w g o t ty cur cells new hg hi hfit h1 hn]
  have e : ∀ v, a.put op.dst v = a := by intro v; rw [hd]; rfl
  simp only [Oper.upon, e]
  exact h
theorem wpList_store_part {ops : Array Oper} {rest : List Oper} {op : Oper} {a : Act} {w : World} {Q : Exit → Act → World → Prop} (hgd : op.guard = none) (ty : TypeId) (x y : Operand) (ho : op.op = .store ty x y) (hd : op.dst = none)
    (g o : Nat) (hx : a.eval x = .pointer (some ⟨g, o, none⟩)) (cells : Array Value) (hy : a.eval y = .agg cells) (t : TypeId) (cur new : Array Value) (hg : w.heap[g]? = some (.cells cur t (0, 0)))
    (hi : (P.info? ty).map (·.size) = some cells.size) (hfit : o + cells.size ≤ cur.size) (h1 : cells.all (·.oneCell') = true) (hn : (cur.toList.take o ++ cells.toList ++ cur.toList.drop (o + cells.size)).toArray = new)
    (h : wpList P ops Q rest a (w.setRow g new)) : wpList P ops Q (op :: rest) a w :=
  wpList_plain hgd fun _ hK => wp_store_part ty x y ho hd g o hx cells hy t cur new hg hi hfit h1 hn (hK _ _ h)
theorem range_part {w : World} {g : Nat} {t : TypeId} {cur : Array Value} {fr : Nat × Nat} (hg : w.heap[g]? = some (.cells cur t fr)) (o : Nat) (cs : List Value) (hc : (cur.toList.drop o).take cs.length = cs) : w.rangeAt g o cs := fun j v hv => by
  rw [cell_of_row w g (o + j) cur t fr hg]
  have hj : j < cs.length := (List.getElem?_eq_some_iff.1 hv).1
  rw [← hc, List.getElem?_take_of_lt hj, List.getElem?_drop] at hv
  rw [← Array.getElem?_toList]; exact hv
/-- a load of a struct out of the middle of a row, as an operation of a region yields it -/
theorem run_load_part {a : Act} {o : Oper} {w : World} (ty : TypeId) (x : Operand) (ho : o.op = .load ty x) (g off : Nat) (hx : a.eval x = .pointer (some ⟨g, off, none⟩)) (cs : Array Value) (d : TypeDesc) (t : TypeId) (cur : Array Value) (fr : Nat × Nat)
    (hg : w.heap[g]? = some (.cells cur t fr)) (hc : (cur.toList.drop off).take cs.toList.length = cs.toList) (hu : P.underlying ty = some d) (hd : d.isRow = true) (hi : (P.info? ty).map (·.size) = some cs.toList.length) :
    (execOp a.eval o).run P w = .ok (.value (.agg cs)) w := by
  have h := run_loadVar_mid (P := P) w g off ty cs.toList d (range_part hg off cs.toList hc) hu hd hi
  unfold execOp
  simp only [ho, hx, Instr.loadAt, Instr.sureAddr, Sem.run_bind, Sem.run_pure, Result.andThen_ok, h]
theorem wpList_load_part {ops : Array Oper} {rest : List Oper} {op : Oper} {a : Act} {w : World} {Q : Exit → Act → World → Prop} (hgd : op.guard = none) (ty : TypeId) (x : Operand) (ho : op.op = .load ty x)
    (b o : Nat) (hx : a.eval x = .pointer (some ⟨b, o, none⟩)) (cs : Array Value) (d : TypeDesc) (t : TypeId) (cur : Array Value) (fr : Nat × Nat) (hg : w.heap[b]? = some (.cells cur t fr)) (hc : (cur.toList.drop o).take cs.toList.length = cs.toList)
    (hu : P.underlying ty = some d) (hd : d.isRow = true) (hi : (P.info? ty).map (·.size) = some cs.toList.length)
    (h : wpList P ops Q rest (a.put op.dst (.agg cs)) w) : wpList P ops Q (op :: rest) a w :=
  wpList_load_mid hgd ty x ho b o hx cs.toList d (range_part hg o cs.toList hc) hu hd hi h
end
end Go.Proofs.YtkmhmehofipehaaDoor
