/- A file taken apart, by the reference: its loop. -/
import Derived.Test.YtkmhmehofipehaaGreatDoorPz25
import Derived.Test.YtkmhmehofipehaaGreatDoorPz5
import Derived.Test.YtkmhmehofipehaaGreatDoorPz15
import Derived.Test.YtkmhmehofipehaaGreatDoorPz7
import Derived.BigQuiet
import Derived.Laws.StructEq
import Derived.WalkSpells
import Derived.WalkLawsBesides
namespace Go.Proofs.YtkmhmehofipehaaGreatDoor
set_option linter.unusedVariables false
open Go.RowKit
theorem SeesB.back {w w' : World} {B : Nat} {A : Option Addr} {l : List UInt8} (hb : Below B w w') (h : SeesB w' A l) (hA : ∀ x, A = some x → x.block < B) : SeesB w A l := by
  intro i v hv
  obtain ⟨a, ha, hc⟩ := h i v hv
  refine ⟨a, ha, (World.cell?_of_block (w := w') (w' := w) ?_).trans hc⟩
  rw [addr_block]
  exact (hb.block _ (hA a ha)).symm
set_option maxRecDepth 20000 in
set_option maxHeartbeats 8000000 in
theorem rparse_ok (A : Option Addr) (c : Nat) (b : List UInt8) (w : World) (hl : SeesB w A b) (hc : b.length ≤ c) (hcm : c ≤ maxLen) (hlen : b.length ≤ 1000000) (hE : (getI b).1 = 0) (hz : (getG (b.drop 19)).1 = 0) :
    Calls Tryz.prog 7 #[.slice A b.length c] w (ParsePost w (parseF b)) := by
  have hl19 := getI_long hE
  have hgr := (getG_range (b.drop 19)).1
  rw [List.length_drop] at hgr
  have hdl : (b.drop 19).length = b.length - 19 := List.length_drop
  have hl20 : 19 < b.length := by
    rcases Nat.lt_or_ge 19 b.length with h | h
    · exact h
    · rw [List.drop_eq_nil_of_le h] at hz
      exact absurd hz (by decide)
  have hR : parseF b = finP (infoOf b) (getG (b.drop 19)).2.2 b (loopP (infoOf b) b (b.length + 1) (begP (getG (b.drop 19)).2.1)) := by unfold parseF; rw [if_neg (by rw [hE]; simp), if_neg (by rw [hz]; simp)]
  have hbi := (InfoV.range (infoOf_right hE)).2.2.1
  have hz0 := heap_alloc_new w (.cells #[.int .i64 0, .int .i64 0, .int .i64 0, .int .i64 0, .int .i64 0, .int .i64 0, .slice none 0 0, .slice none 0 0, .int .i64 0, .int .u32 0, .slice none 0 0] 43)
  have hbz : Below w.heap.size w (w.alloc (.cells #[.int .i64 0, .int .i64 0, .int .i64 0, .int .i64 0, .int .i64 0, .int .i64 0, .slice none 0 0, .slice none 0 0, .int .i64 0, .int .u32 0, .slice none 0 0] 43)) := (Below.refl _ w).alloc (Nat.le_refl _) _
  have hsz : w.heap.size < (w.alloc (.cells #[.int .i64 0, .int .i64 0, .int .i64 0, .int .i64 0, .int .i64 0, .int .i64 0, .slice none 0 0, .slice none 0 0, .int .i64 0, .int .u32 0, .slice none 0 0] 43)).heap.size := by simp
  have hl0 := hl.below hbz
  have hG := hid (rigetV_any A c b (w.alloc (.cells #[.int .i64 0, .int .i64 0, .int .i64 0, .int .i64 0, .int .i64 0, .int .i64 0, .slice none 0 0, .slice none 0 0, .int .i64 0, .int .u32 0, .slice none 0 0] 43)) hl0 hc hcm)
  unfold GetIPost at hG
  obtain ⟨P, hP⟩ : ∃ P, P = parseF b := ⟨_, rfl⟩
  rw [← hP] at hR ⊢
  have HR := hid hR
  clear hP hR
  have HTG := hid (fun A c W hs h1 h2 => rtagget_any A c (b.drop 19) W hs h1 h2 (by rw [hdl]; omega))
  obtain ⟨⟨er, nr, l⟩, hr⟩ : ∃ r, getG (b.drop 19) = r := ⟨_, rfl⟩
  rw [hr] at hz hgr HR HTG
  simp only at hz hgr
  unfold GetGPost at HTG
  simp only at HTG
  rw [hdl] at HTG
  rw [hE] at hG
  have HDL := hid hdl
  clear hdl
  generalize infoOf b = iv at *
  clear hE hr
  subst hz
  obtain ⟨ik, ich, ibi, ira, ibl, ish⟩ := iv
  unfold InfoV.v at hG
  (try simp only at hG)
  clear hl
  go_enter Tryz.func7, Tryz.ntmps7
  go_wp2_with fail
  generalize w.alloc (.cells #[.int .i64 0, .int .i64 0, .int .i64 0, .int .i64 0, .int .i64 0, .int .i64 0, .slice none 0 0, .slice none 0 0, .int .i64 0, .int .u32 0, .slice none 0 0] 43) = wz at *
  refine hG.out.mono ?_
  rintro e w1 ⟨rfl, hb1⟩
  clear hG
  have hzr := (hb1.block w.heap.size hsz).trans hz0
  have hb1z := hbz.trans (hb1.mono hbz.size)
  have hba : Below w1.heap.size w1 (w1.alloc (.cells #[.int .i64 ik, .int .i64 ich, .int .i64 ibi, .int .i64 ira, .int .i64 ibl, .int .i64 ish] 27)) := (Below.refl _ _).alloc (Nat.le_refl _) _
  have hgi := heap_alloc_new w1 (.cells #[.int .i64 ik, .int .i64 ich, .int .i64 ibi, .int .i64 ira, .int .i64 ibl, .int .i64 ish] 27)
  have hzr2 := (hba.block w.heap.size (Array.getElem?_eq_some_iff.1 hzr).1).trans hzr
  have hbw2 := hb1z.trans (hba.mono hb1z.size)
  have hl2 := SeesB.below (SeesB.below hl0 hb1) hba
  have hzi : w.heap.size < w1.heap.size := (Array.getElem?_eq_some_iff.1 hzr).1
  clear hb1 hz0 hbz hb1z hzr hl0 hba
  go_upto_region 2 with fail
  generalize w1.alloc (.cells #[.int .i64 ik, .int .i64 ich, .int .i64 ibi, .int .i64 ira, .int .i64 ibl, .int .i64 ish] 27) = w2 at *
  generalize w1.heap.size = gi at *
  have hdl := HDL.out
  have f19 : (19 : Int) ≤ (b.length : Int) := by omega
  have f19c : (b.length : Int) ≤ (c : Int) := by omega
  obtain ⟨a, rfl, _⟩ := hl2.at (show 0 < b.length by omega)
  have hcx : ¬ c = 19 := by omega
  have hs19 : SeesB w2 (some ⟨a.block, a.off + 19, none⟩) (b.drop 19) := by
    have := SeesB.cutTo hl2 19 b.length
    rw [List.take_of_length_le (by rw [hdl]; omega)] at this
    exact this
  have HT2 := hid (HTG.out (some ⟨a.block, a.off + 19, none⟩) (c - 19) w2 hs19 (by omega) (by omega))
  clear hs19 HTG
  go_wp2_with fail
  refine HT2.out.mono ?_
  rintro e w3 ⟨At, ct, rfl, hst, hct, hb3⟩
  have hzr3 := (hb3.block w.heap.size (Array.getElem?_eq_some_iff.1 hzr2).1).trans hzr2
  have hgi3 := (hb3.block gi (Array.getElem?_eq_some_iff.1 hgi).1).trans hgi
  have hbw3 := hbw2.trans (hb3.mono hbw2.size)
  have hl3 := SeesB.below hl2 hb3
  clear hb3 hzr2 hgi hbw2 hl2 HT2
  have hnr : nr ≤ 1000000 := by omega
  have hso : (begP nr).ok b := begP_ok (by omega)
  have hfu : b.length - (begP nr).at_ < b.length + 1 := Nat.lt_succ_of_le (Nat.sub_le _ _)
  have HWR := hid (nineteen nr hnr)
  go_upto_region 8 with first | (refine wpList_load_row rfl 27 (.tmp 4) rfl gi rfl 27 #[.int .i64 ik, .int .i64 ich, .int .i64 ibi, .int .i64 ira, .int .i64 ibl, .int .i64 ish] (0, 0) _ hgi3 Tryz.underlying27 rfl (by kernel_rfl) ?_)
  have hbm0 : Below w3.heap.size w3 (w3.alloc (.cells #[.int .i64 ik, .int .i64 ich, .int .i64 ibi, .int .i64 ira, .int .i64 ibl, .int .i64 ish, .slice At l.length ct, .slice none 0 0, .int .i64 0, .int .u32 0, .slice none 0 0] 43)) := (Below.refl _ _).alloc (Nat.le_refl _) _
  have hm0 := heap_alloc_new w3 (.cells #[.int .i64 ik, .int .i64 ich, .int .i64 ibi, .int .i64 ira, .int .i64 ibl, .int .i64 ish, .slice At l.length ct, .slice none 0 0, .int .i64 0, .int .u32 0, .slice none 0 0] 43)
  have hmle : w3.heap.size + 1 ≤ (w3.alloc (.cells #[.int .i64 ik, .int .i64 ich, .int .i64 ibi, .int .i64 ira, .int .i64 ibl, .int .i64 ish, .slice At l.length ct, .slice none 0 0, .int .i64 0, .int .u32 0, .slice none 0 0] 43)).heap.size := by simp
  have hzm : w.heap.size < w3.heap.size := (Array.getElem?_eq_some_iff.1 hzr3).1
  have him : gi < w3.heap.size := (Array.getElem?_eq_some_iff.1 hgi3).1
  have hmw : w.heap.size ≤ w3.heap.size := Nat.le_of_lt hzm
  (try simp only at hbi)
  have HNX := hid (fun (h : HeadV) (index : Int) (short : Bool) W => rfnext_any (⟨ik, ich, ibi, ira, ibl, ish⟩ : InfoV) h index short W hbi)
  clear hbi
  generalize w3.alloc (.cells #[.int .i64 ik, .int .i64 ich, .int .i64 ibi, .int .i64 ira, .int .i64 ibl, .int .i64 ish, .slice At l.length ct, .slice none 0 0, .int .i64 0, .int .u32 0, .slice none 0 0] 43) = w4 at *
  generalize hmeq : w3.heap.size = m at *
  replace hmeq := hid hmeq
  go_wp2_with fail
  go_loopw [10, 11, 12, 13, 14, 15, 16, 17, 18] (fun x10 x11 x12 x13 x14 _ _ _ _ wr => ∃ (n : Nat) (s : PS) (L : List BlkM) (Ap : Option Addr) (cp : Nat) (Ak : Option Addr) (ck : Nat), x10 = .int .i64 (s.at_ : Int) ∧ x11 = .int .i64 s.cnt ∧ x12 = .bool s.short ∧ x13 = .slice Ap s.pl.length cp ∧ x14 = .int .i64 (s.pl.length : Int) ∧ wr.heap[m]? = some (.cells #[.int .i64 ik, .int .i64 ich, .int .i64 ibi, .int .i64 ira, .int .i64 ibl, .int .i64 ish, .slice At l.length ct, .slice Ak L.length ck, .int .i64 0, .int .u32 0, .slice none 0 0] 43 (0, 0)) ∧ wr.ownsRow (m + 1) 3 1 (.slice Ap s.pl.length cp) s.pl.length (s.pl.map intV) ∧ wr.ownsRow (m + 1) 72 11 (.slice Ak L.length ck) L.length (flatM L) ∧ (∀ x ∈ L, SeesB w3 x.A x.p ∧ x.p.length ≤ x.c ∧ x.c ≤ maxLen) ∧ s.bl = L.map BlkM.plain ∧ Below m w3 wr ∧ m + 1 ≤ wr.heap.size ∧ s.ok b ∧ Hid (P = finP (⟨ik, ich, ibi, ira, ibl, ish⟩ : InfoV) l b (loopP (⟨ik, ich, ibi, ira, ibl, ish⟩ : InfoV) b n s)) ∧ b.length - s.at_ < n) (fun x10 _ _ _ _ _ _ _ _ _ => b.length - (intOf x10).toNat)
  case atStart => exact ⟨b.length + 1, begP nr, [], none, 0, none, 0, by simp [begP], rfl, rfl, rfl, rfl, hm0, own_nil _ _ _ _, own_nil _ _ _ _, (fun x hx => by simp at hx), rfl, hbm0, hmle, hso, HR, hfu⟩
  case round =>
    clear hm0 hso hfu HR hbm0 hmle HWR
    obtain ⟨n, s, L, Ap, cp, Ak, ck, rfl, rfl, rfl, rfl, rfl, hm, hp, hk, hpay, hbl, hbw, hmr, hs, HN, hn⟩ := hrel
    obtain ⟨n, rfl⟩ : ∃ k, n = k + 1 := ⟨n - 1, by omega⟩
    have hat := hs.at_
    have h36 := hs.at36
    have dk : decide ((s.pl.length : Int) ≤ (b.length : Int)) = true := decide_eq_true (by omega)
    have dkn : decide (s.pl.length ≤ b.length) = true := decide_eq_true (by omega)
    have hdl2 : (b.drop s.at_).length = b.length - s.at_ := List.length_drop
    by_cases hpos : s.at_ < b.length
    · have dg : decide ((b.length : Int) ≤ (s.at_ : Int)) = false := decide_eq_false (by omega)
      have dgn : decide (b.length ≤ s.at_) = false := decide_eq_false (by omega)
      have hposi : (s.at_ : Int) < (b.length : Int) := by omega
      have hb69 : b[s.at_]? = some b[s.at_] := List.getElem?_eq_getElem hpos
      have hbwm : Below w3.heap.size w3 wr := by rw [hmeq.out]; exact hbw
      have hlr := SeesB.below hl3 hbwm
      obtain ⟨a', ha', ca⟩ := hlr.at hpos
      injection ha' with ha'
      subst ha'
      generalize b[s.at_] = x at ca hb69
      by_cases hx : x = 69
      · have d69 : ((x.toNat : Int) != 69) = false := by rw [hx]; rfl
        have hHP : P = finP (⟨ik, ich, ibi, ira, ibl, ish⟩ : InfoV) l b (0, s) := by rw [HN.out, loopP, if_pos (by rw [hb69, hx])]
        clear HN hn hb69 hlr HNX
        go_upto_region 28 with fail
        rename_i hK
        exact rend hc hcm hlen hl3 hst hct hzr3 hbw3 hzm hmeq hm hp hk hpay hbl hbw hmr hs hHP hpos hK
      · have d69 : ((x.toNat : Int) != 69) = true := by
          have h1 : ((x.toNat : Int) == ((69 : Nat) : Int)) = false := by rw [byte_is x 69 (by omega)]; simpa using hx
          show (!((x.toNat : Int) == ((69 : Nat) : Int))) = true
          rw [h1]; rfl
        have h69 : b[s.at_]? ≠ some 69 := by rw [hb69]; intro h; injection h with h; exact hx h
        have hamb : a.block < m := by
          have h1 := SeesB.lt hl3 (by intro h; rw [h] at hpos; simp at hpos) (a := a) rfl
          rw [hmeq.out] at h1
          exact h1
        have hsd : SeesB wr (some (a.add s.at_)) (b.drop s.at_) := by
          have := SeesB.cutTo hlr s.at_ b.length
          rw [List.take_of_length_le (by rw [hdl2]; omega)] at this
          exact this
        have hmrl : m < wr.heap.size := hmr
        have hmr2 : m ≤ wr.heap.size := Nat.le_of_lt hmr
        have hO := hropenR_any (some (a.add s.at_)) (c - s.at_) (b.drop s.at_) wr hsd (by omega) (by omega) (by omega)
        have hblk : blkE (⟨ik, ich, ibi, ira, ibl, ish⟩ : InfoV) b s = if (openH (b.drop s.at_)).1 ≠ 0 then (openH (b.drop s.at_)).1 else nextE (⟨ik, ich, ibi, ira, ibl, ish⟩ : InfoV) (openH (b.drop s.at_)).2.1 s.pl.length s.short := by unfold blkE; rw [if_neg (by omega)]
        have hHP : P = finP (⟨ik, ich, ibi, ira, ibl, ish⟩ : InfoV) l b (if blkE (⟨ik, ich, ibi, ira, ibl, ish⟩ : InfoV) b s ≠ 0 then (blkE (⟨ik, ich, ibi, ira, ibl, ish⟩ : InfoV) b s, s) else loopP (⟨ik, ich, ibi, ira, ibl, ish⟩ : InfoV) b n (s.next (⟨ik, ich, ibi, ira, ibl, ish⟩ : InfoV) (openH (b.drop s.at_)))) := by rw [HN.out, loopP, if_neg h69]
        have hsok := hs.next (i := (⟨ik, ich, ibi, ira, ibl, ish⟩ : InfoV)) (b := b)
        have hfin := openH_fine (b := b.drop s.at_)
        have hzl := openH_len (b := b.drop s.at_)
        have hLl : L.length = s.pl.length := by rw [hs.num, hbl, List.length_map]
        have hcn := hs.cnt
        obtain ⟨⟨E, ⟨zk, zidx, zlen, zstp, zbnd, zlst, zlnk, zsiz⟩, pay, sm⟩, hr⟩ : ∃ r, openH (b.drop s.at_) = r := ⟨_, rfl⟩
        rw [hr] at hO hHP hblk hsok hfin hzl
        unfold OpenPostR HeadV.cells at hO
        rw [hdl2] at hO hfin
        (try simp only at hO hblk hsok hfin hzl)
        have HFU := hid hn
        clear hr hsd hlr HN hn
        by_cases hE0 : E = 0
        · subst hE0
          obtain ⟨hfs, hfr, hf0⟩ := hfin rfl
          have hzl := hzl rfl
          (try simp only at hfs hf0)
          obtain ⟨N, rfl⟩ := Int.eq_ofNat_of_zero_le hf0
          have HN0 := HNX.out ⟨zk, zidx, zlen, zstp, zbnd, zlst, zlnk, (N : Int)⟩ (s.pl.length : Int) s.short
          obtain ⟨nE, hnE⟩ : ∃ nE, nE = nextE (⟨ik, ich, ibi, ira, ibl, ish⟩ : InfoV) ⟨zk, zidx, zlen, zstp, zbnd, zlst, zlnk, (N : Int)⟩ (s.pl.length : Int) s.short := ⟨_, rfl⟩
          rw [← hnE] at HN0 hblk
          rw [if_neg (by simp)] at hblk
          rw [hblk] at hHP hsok
          unfold InfoV.v HeadV.v at HN0
          (try simp only at HN0)
          have HN1 := hid HN0
          have HOP := hid hO
          have HSOK := hid hsok
          have HLE := hid (show s.pl.length ≤ 100000 by omega)
          have HLB := hid (show L.length ≤ 100000 by omega)
          have HBL := hid hbl
          have HPAY := hid hpay
          have HFX := hid (next_facts s.at_ N b.length n s.pl.length s.cnt zlen (by omega) hlen (by omega) HFU.out hpos hcn (by omega))
          have HPP := hid hHP
          have hnEq := hid hnE
          clear HN0 hO hblk hHP hsok hnE hfs hf0 hfr hzl hcn hs hLl hbl hpay hfin
          go_wp2_with fail
          refine HOP.out.mono ?_
          rintro e w5 ⟨A5, c5, rfl, hs5, hc5, hcm5, hb5, hA5⟩
          have hm5 := (hb5.block m hmrl).trans hm
          have hp5 := own_keepF hp hb5
          have hk5 := own_keepF hk hb5
          have hbw5 : Below m w3 w5 := hbw.trans (hb5.mono hmr2)
          have hmr5 : m + 1 ≤ w5.heap.size := Nat.le_trans hmr hb5.size
          have hba : Below w5.heap.size w5 (w5.alloc (.cells #[.int .i64 zk, .int .i64 zidx, .int .i64 zlen, .int .i64 zstp, .int .i64 zbnd, .bool zlst, .int .u32 zlnk, .int .i64 (N : Int)] 67)) := (Below.refl _ _).alloc (Nat.le_refl _) _
          have hgh6 := heap_alloc_new w5 (.cells #[.int .i64 zk, .int .i64 zidx, .int .i64 zlen, .int .i64 zstp, .int .i64 zbnd, .bool zlst, .int .u32 zlnk, .int .i64 (N : Int)] 67)
          have hm6 := (hba.block m hmr5).trans hm5
          have hp6 := own_keepF hp5 hba
          have hk6 := own_keepF hk5 hba
          have hbw6 : Below m w3 (w5.alloc (.cells #[.int .i64 zk, .int .i64 zidx, .int .i64 zlen, .int .i64 zstp, .int .i64 zbnd, .bool zlst, .int .u32 zlnk, .int .i64 (N : Int)] 67)) := hbw5.trans (hba.mono (Nat.le_of_lt hmr5))
          have hmr6 := Nat.le_trans hmr5 hba.size
          have hghm : m + 1 ≤ w5.heap.size := hmr5
          have hs3 : SeesB w3 A5 pay := SeesB.back hbw5 hs5 (fun x hx => by obtain ⟨a0, h0, h1⟩ := hA5 x hx; injection h0 with h0; rw [h1, ← h0, addr_block]; exact hamb)
          clear hba hbw5 hb5 hm5 hp5 hk5 hs5 hA5 hmr5 hm hp hk hmr2 hmrl hmr HOP
          go_upto_region 18 with fail
          generalize w5.alloc (.cells #[.int .i64 zk, .int .i64 zidx, .int .i64 zlen, .int .i64 zstp, .int .i64 zbnd, .bool zlst, .int .u32 zlnk, .int .i64 (N : Int)] 67) = w6 at *
          generalize w5.heap.size = gh at *
          have hgi6 := (hbw6.block gi him).trans hgi3
          go_wp2_with first | (refine wpList_load_row rfl 27 (.tmp 4) rfl gi rfl 27 #[.int .i64 ik, .int .i64 ich, .int .i64 ibi, .int .i64 ira, .int .i64 ibl, .int .i64 ish] (0, 0) _ hgi6 Tryz.underlying27 rfl (by kernel_rfl) ?_) | (refine wpList_load_row rfl 67 (.tmp 15) rfl gh rfl 67 #[.int .i64 zk, .int .i64 zidx, .int .i64 zlen, .int .i64 zstp, .int .i64 zbnd, .bool zlst, .int .u32 zlnk, .int .i64 (N : Int)] (0, 0) _ hgh6 Tryz.underlying67 rfl (by kernel_rfl) ?_)
          refine (HN1.out w6).mono ?_
          rintro e w7 ⟨rfl, hb7⟩
          have hmlt6 : m < w6.heap.size := hmr6
          have hbw7 : Below m w3 w7 := hbw6.trans (hb7.mono (Nat.le_of_lt hmlt6))
          have hgh7 := (hb7.block gh (Array.getElem?_eq_some_iff.1 hgh6).1).trans hgh6
          have hgi7 := (hbw7.block gi him).trans hgi3
          have hm7 := (hb7.block m hmlt6).trans hm6
          have hp7 := own_keepF hp6 hb7
          have hk7 := own_keepF hk6 hb7
          have hmr7 := Nat.le_trans hmr6 hb7.size
          clear hbw6 hgh6 hgi6 hm6 hp6 hk6 hmr6 hb7 hmlt6 HN1
          by_cases hne : nE = 0
          · subst hne
            have dN : ((0 : Int) != 0) = false := rfl
            have HP7 := hid (show P = finP (⟨ik, ich, ibi, ira, ibl, ish⟩ : InfoV) l b (loopP (⟨ik, ich, ibi, ira, ibl, ish⟩ : InfoV) b n (s.next (⟨ik, ich, ibi, ira, ibl, ish⟩ : InfoV) (0, ⟨zk, zidx, zlen, zstp, zbnd, zlst, zlnk, (N : Int)⟩, pay, sm))) by rw [HPP.out, if_neg (by simp)])
            have HOK := hid (HSOK.out rfl)
            clear HPP HSOK hgi7
            go_upto_region 23 with fail
            rename_i K hK
            refine rnext hgi3 him hm7 hp7 hk7 hgh7 hbw7 hmr7 hghm hs3 hc5 hcm5 HPAY HBL HLE HLB HFX HOK HP7 ?hR (by assumption) hK
            intro W x10 x11 x12 x13 x14 x64 x65 x93 x94 x95 x96 x97 x98 x99 x100 x101 x102 x103 x104 x105 x106 x107 x108 x109 x110 x111 x112 x113 x114 x115 x116 x117 x118 x119 x120 hinv hlt
            refine ⟨⟨_, _, _, _, _, _, _, _, _, _, _, _, _, _, _, _, _, _, _, _, _, _, _, _, _, _, _, _, _, _, _, _, _, _, _, _, _, _, _, _, _, _, _, _, _, _, _, _, _, _, _, _, _, _, _, _, _, _, _, _, _, _, _, _, _, _, _, _, _, _, _, _, _, _, _, _, _, _, _, _, _, _, _, _, hinv, rfl⟩, hlt⟩
          · have dN : (nE != 0) = true := by simpa using hne
            have HF := hid (show P = (nE, FileV.zero) by rw [HPP.out, if_pos hne]; unfold finP; rw [if_pos hne])
            clear hm7 hp7 hk7 hgh7 hgi7 hs3 hne HPP HSOK
            have hzrX := (hbw7.block w.heap.size hzm).trans hzr3
            have hbwX := hbw3.trans (hbw7.mono hmw)
            go_wp2_with first | (refine wpList_build rfl 43 _ rfl (.agg #[.int .i64 0, .int .i64 0, .int .i64 0, .int .i64 0, .int .i64 0, .int .i64 0, .slice none 0 0, .slice none 0 0, .int .i64 0, .int .u32 0, .slice none 0 0]) (by kernel_rfl) ?_) | (refine wpList_store_row rfl 43 (.tmp 2) (.tmp 91) rfl rfl w.heap.size rfl #[.int .i64 0, .int .i64 0, .int .i64 0, .int .i64 0, .int .i64 0, .int .i64 0, .slice none 0 0, .slice none 0 0, .int .i64 0, .int .u32 0, .slice none 0 0] rfl 43 #[.int .i64 0, .int .i64 0, .int .i64 0, .int .i64 0, .int .i64 0, .int .i64 0, .slice none 0 0, .slice none 0 0, .int .i64 0, .int .u32 0, .slice none 0 0] hzrX (by kernel_rfl) rfl (by simp [Value.oneCell']) ?_)
            refine bodyPost_ret (v := .tuple #[.agg #[.int .i64 0, .int .i64 0, .int .i64 0, .int .i64 0, .int .i64 0, .int .i64 0, .slice none 0 0, .slice none 0 0, .int .i64 0, .int .u32 0, .slice none 0 0], .int .i64 nE]) (results_row_tmp (fn := Tryz.f7) (p := 2) (u := 3) (ty := 43) rfl _ _ w.heap.size _ _ _ _ rfl (setRow_heap _ _ _ _ _ _ hzrX) Tryz.underlying43 rfl (by kernel_rfl)) rfl ?_
            rw [HF.out]
            exact parse_bad _ (below_setRow hbwX (Nat.le_refl _) _)
        · have dE : (E != 0) = true := by simpa using hE0
          rw [if_pos hE0] at hblk
          have HF := hid (show P = (E, FileV.zero) by rw [hHP, hblk, if_pos hE0]; unfold finP; rw [if_pos hE0])
          have HOP := hid hO
          clear hO hblk hHP hsok hfin hzl hcn hs hLl hbl hpay hE0
          go_wp2_with fail
          refine HOP.out.mono ?_
          rintro e w5 ⟨A5, c5, rfl, hs5, hc5, hcm5, hb5, hA5⟩
          have hm5 := (hb5.block m hmrl).trans hm
          have hp5 := own_keepF hp hb5
          have hk5 := own_keepF hk hb5
          have hbw5 : Below m w3 w5 := hbw.trans (hb5.mono hmr2)
          have hmr5 : m + 1 ≤ w5.heap.size := Nat.le_trans hmr hb5.size
          have hba : Below w5.heap.size w5 (w5.alloc (.cells #[.int .i64 zk, .int .i64 zidx, .int .i64 zlen, .int .i64 zstp, .int .i64 zbnd, .bool zlst, .int .u32 zlnk, .int .i64 zsiz] 67)) := (Below.refl _ _).alloc (Nat.le_refl _) _
          have hgh6 := heap_alloc_new w5 (.cells #[.int .i64 zk, .int .i64 zidx, .int .i64 zlen, .int .i64 zstp, .int .i64 zbnd, .bool zlst, .int .u32 zlnk, .int .i64 zsiz] 67)
          have hm6 := (hba.block m hmr5).trans hm5
          have hp6 := own_keepF hp5 hba
          have hk6 := own_keepF hk5 hba
          have hbw6 : Below m w3 (w5.alloc (.cells #[.int .i64 zk, .int .i64 zidx, .int .i64 zlen, .int .i64 zstp, .int .i64 zbnd, .bool zlst, .int .u32 zlnk, .int .i64 zsiz] 67)) := hbw5.trans (hba.mono (Nat.le_of_lt hmr5))
          have hmr6 := Nat.le_trans hmr5 hba.size
          have hghm : m + 1 ≤ w5.heap.size := hmr5
          have hs3 : SeesB w3 A5 pay := SeesB.back hbw5 hs5 (fun x hx => by obtain ⟨a0, h0, h1⟩ := hA5 x hx; injection h0 with h0; rw [h1, ← h0, addr_block]; exact hamb)
          clear hba hbw5 hb5 hm5 hp5 hk5 hs5 hA5 hmr5 hm hp hk hmr2 hmrl hmr HOP
          go_upto_region 18 with fail
          generalize w5.alloc (.cells #[.int .i64 zk, .int .i64 zidx, .int .i64 zlen, .int .i64 zstp, .int .i64 zbnd, .bool zlst, .int .u32 zlnk, .int .i64 zsiz] 67) = w6 at *
          generalize w5.heap.size = gh at *
          clear hm6 hp6 hk6 hgh6 hs3
          have hzrX := (hbw6.block w.heap.size hzm).trans hzr3
          have hbwX := hbw3.trans (hbw6.mono hmw)
          go_wp2_with first | (refine wpList_build rfl 43 _ rfl (.agg #[.int .i64 0, .int .i64 0, .int .i64 0, .int .i64 0, .int .i64 0, .int .i64 0, .slice none 0 0, .slice none 0 0, .int .i64 0, .int .u32 0, .slice none 0 0]) (by kernel_rfl) ?_) | (refine wpList_store_row rfl 43 (.tmp 2) (.tmp 82) rfl rfl w.heap.size rfl #[.int .i64 0, .int .i64 0, .int .i64 0, .int .i64 0, .int .i64 0, .int .i64 0, .slice none 0 0, .slice none 0 0, .int .i64 0, .int .u32 0, .slice none 0 0] rfl 43 #[.int .i64 0, .int .i64 0, .int .i64 0, .int .i64 0, .int .i64 0, .int .i64 0, .slice none 0 0, .slice none 0 0, .int .i64 0, .int .u32 0, .slice none 0 0] hzrX (by kernel_rfl) rfl (by simp [Value.oneCell']) ?_)
          refine bodyPost_ret (v := .tuple #[.agg #[.int .i64 0, .int .i64 0, .int .i64 0, .int .i64 0, .int .i64 0, .int .i64 0, .slice none 0 0, .slice none 0 0, .int .i64 0, .int .u32 0, .slice none 0 0], .int .i64 E]) (results_row_tmp (fn := Tryz.f7) (p := 2) (u := 3) (ty := 43) rfl _ _ w.heap.size _ _ _ _ rfl (setRow_heap _ _ _ _ _ _ hzrX) Tryz.underlying43 rfl (by kernel_rfl)) rfl ?_
          rw [HF.out]
          exact parse_bad _ (below_setRow hbwX (Nat.le_refl _) _)
    · have dg : decide ((b.length : Int) ≤ (s.at_ : Int)) = true := decide_eq_true (by omega)
      have dgn : decide (b.length ≤ s.at_) = true := decide_eq_true (by omega)
      have h69 : b[s.at_]? ≠ some 69 := by rw [List.getElem?_eq_none (by omega)]; simp
      have hE10 : blkE (⟨ik, ich, ibi, ira, ibl, ish⟩ : InfoV) b s = 10 := by unfold blkE; rw [if_pos (by omega)]
      have HF := hid (show P = (10, FileV.zero) by rw [HN.out, loopP, if_neg h69, if_pos (by rw [hE10]; decide), hE10]; rfl)
      clear hE10 h69 hn HN hm hp hk hpay hbl hs hdl2 h36 hat hst HNX
      have hzrX := (hbw.block w.heap.size hzm).trans hzr3
      have hbwX := hbw3.trans (hbw.mono hmw)
      go_wp2_with first | (refine wpList_build rfl 43 _ rfl (.agg #[.int .i64 0, .int .i64 0, .int .i64 0, .int .i64 0, .int .i64 0, .int .i64 0, .slice none 0 0, .slice none 0 0, .int .i64 0, .int .u32 0, .slice none 0 0]) (by kernel_rfl) ?_) | (refine wpList_store_row rfl 43 (.tmp 2) (.tmp 70) rfl rfl w.heap.size rfl #[.int .i64 0, .int .i64 0, .int .i64 0, .int .i64 0, .int .i64 0, .int .i64 0, .slice none 0 0, .slice none 0 0, .int .i64 0, .int .u32 0, .slice none 0 0] rfl 43 #[.int .i64 0, .int .i64 0, .int .i64 0, .int .i64 0, .int .i64 0, .int .i64 0, .slice none 0 0, .slice none 0 0, .int .i64 0, .int .u32 0, .slice none 0 0] hzrX (by kernel_rfl) rfl (by simp [Value.oneCell']) ?_)
      refine bodyPost_ret (v := .tuple #[.agg #[.int .i64 0, .int .i64 0, .int .i64 0, .int .i64 0, .int .i64 0, .int .i64 0, .slice none 0 0, .slice none 0 0, .int .i64 0, .int .u32 0, .slice none 0 0], .int .i64 10]) (results_row_tmp (fn := Tryz.f7) (p := 2) (u := 3) (ty := 43) rfl _ _ w.heap.size _ _ _ _ rfl (setRow_heap _ _ _ _ _ _ hzrX) Tryz.underlying43 rfl (by kernel_rfl)) rfl ?_
      rw [HF.out]
      exact parse_bad _ (below_setRow hbwX (Nat.le_refl _) _)
theorem rparse_any (A : Option Addr) (c : Nat) (b : List UInt8) (w : World) (hl : SeesB w A b) (hc : b.length ≤ c) (hcm : c ≤ maxLen) (hlen : b.length ≤ 1000000) :
    Calls Tryz.prog 7 #[.slice A b.length c] w (ParsePost w (parseF b)) := by
  by_cases hE : (getI b).1 = 0
  · by_cases hz : (getG (b.drop 19)).1 = 0
    · exact rparse_ok A c b w hl hc hcm hlen hE hz
    · by_cases hc19 : c = 19
      · exact rparse_edge A c b w hl hc hcm hlen hE hz hc19
      · exact rparse_bad A c b w hl hc hcm hlen hE hz hc19
  · exact rparse_info A c b w hl hc hcm hlen hE
end Go.Proofs.YtkmhmehofipehaaGreatDoor
/- Blocks of a file in memory: one element's cells, and its load. -/
namespace Go.Proofs.YtkmhmehofipehaaGreatDoor
set_option linter.unusedVariables false
open Go.RowKit
/-- a struct by value out of wherever it lies -/
theorem run_load_anyE {P : Program} {a : Act} {o : Oper} {w : World} (ty : TypeId) (x : Operand) (ho : o.op = .load ty x) (p : Addr) (hx : a.eval x = .pointer (some p)) (cs : Array Value) (d : TypeDesc)
    (hc : ∀ (j : Nat) (v : Value), cs.toList[j]? = some v → w.cell? (p.add j) = some v) (hu : P.underlying ty = some d) (hd : d.isRow = true) (hi : (P.info? ty).map (·.size) = some cs.size) :
    (execOp a.eval o).run P w = .ok (.value (.agg cs)) w := by
  have hl := run_loadCells_list (P := P) w p cs.toList hc
  rw [Array.length_toList] at hl
  have h : (loadVar ty p).run P w = .ok (.agg cs) w := by
    cases hq : P.info? ty with
    | none => simp [hq] at hi
    | some i =>
      have hs : i.size = cs.size := by simpa [hq] using hi
      have hagg : (isAgg ty).run P w = .ok true w := by
        unfold isAgg
        rw [Sem.run_bind, run_underlying hu w]
        cases d <;> simp_all
      simp [loadVar, Sem.run_bind, hagg, sizeOf, typeInfo, hq, hs, hl]
  unfold execOp
  simp only [ho, hx, Instr.loadAt, Instr.sureAddr, Sem.run_bind, Sem.run_pure, Result.andThen_ok, h]
/-- the same, in a plain walk -/
theorem wpList_load_anyE {P : Program} {ops : Array Oper} {rest : List Oper} {op : Oper} {a : Act} {w : World} {Q : Exit → Act → World → Prop} (hgd : op.guard = none) (ty : TypeId) (x : Operand) (ho : op.op = .load ty x) (p : Addr) (hx : a.eval x = .pointer (some p)) (cs : Array Value) (d : TypeDesc)
    (hc : ∀ (j : Nat) (v : Value), cs.toList[j]? = some v → w.cell? (p.add j) = some v) (hu : P.underlying ty = some d) (hd : d.isRow = true) (hi : (P.info? ty).map (·.size) = some cs.size)
    (h : wpList P ops Q rest (a.put op.dst (.agg cs)) w) : wpList P ops Q (op :: rest) a w :=
  wpList_plain hgd fun _ hK => by
    unfold Oper.wp
    rw [run_load_anyE ty x ho p hx cs d hc hu hd hi]
    exact hK _ _ h
theorem blk_cellsE {w : World} {A : Option Addr} {L : List BlkM} {k : Nat} {x : BlkM} (h : Sees w A (flatM L)) (hx : L[k]? = some x) : ∃ a, A = some a ∧ ∀ (j : Nat) (v : Value), x.cells.toArray.toList[j]? = some v → w.cell? ((a.add (k * 11)).add j) = some v := by
  obtain ⟨hk, rfl⟩ := List.getElem?_eq_some_iff.1 hx
  have h0 := flatM_at L k hk 0 (by omega)
  rw [show (L[k].cells)[0]? = some (.int .i64 L[k].h.k) from rfl] at h0
  obtain ⟨a, ha, _⟩ := h _ _ h0
  refine ⟨a, ha, fun j v hv => ?_⟩
  rw [List.toList_toArray] at hv
  have hj : j < 11 := (List.getElem?_eq_some_iff.1 hv).1
  obtain ⟨a', ha', hc⟩ := h _ v ((flatM_at L k hk j hj).trans hv)
  rw [ha] at ha'
  injection ha' with ha'
  subst ha'
  rw [addr_add]
  exact hc
theorem flatM_take {L : List BlkM} {k : Nat} {x : BlkM} (hx : L[k]? = some x) : flatM (L.take k) ++ flatM [x] = flatM (L.take (k + 1)) := by
  obtain ⟨hk, rfl⟩ := List.getElem?_eq_some_iff.1 hx
  rw [← flatM_app, List.take_succ_eq_append_getElem hk]
end Go.Proofs.YtkmhmehofipehaaGreatDoor
/- The law's Back: a file of the program's as one of the reference's. -/
namespace Go.Proofs.YtkmhmehofipehaaGreatDoor
set_option linter.unusedVariables false
open Go.RowKit
set_option maxRecDepth 20000 in
set_option maxHeartbeats 8000000 in
theorem back_any (ik ich ibi ira ibl ish tc ts : Int) (At : Option Addr) (nt ct : Nat) (Ak : Option Addr) (ck : Nat) (Ax : Option Addr) (nx cx : Nat) (L : List BlkM) (w : World) (hk : Sees w Ak (flatM L)) (hL : L.length ≤ 100000) :
    Calls Tryz.prog 9 #[.agg #[.int .i64 ik, .int .i64 ich, .int .i64 ibi, .int .i64 ira, .int .i64 ibl, .int .i64 ish, .slice At nt ct, .slice Ak L.length ck, .int .i64 tc, .int .u32 ts, .slice Ax nx cx]] w fun e w' => ∃ (Aq : Option Addr) (cq : Nat), e = .returned (.agg #[.int .i64 ik, .int .i64 ich, .int .i64 ibi, .int .i64 ira, .int .i64 ibl, .int .i64 ish, .slice At nt ct, .slice Aq L.length cq, .int .i64 tc, .int .u32 ts, .slice Ax nx cx]) ∧ Sees w' Aq (flatM L) ∧ L.length ≤ cq ∧ cq ≤ maxLen ∧ Below w.heap.size w w' := by
  have hg0 := heap_alloc_new w (.cells #[.int .i64 ik, .int .i64 ich, .int .i64 ibi, .int .i64 ira, .int .i64 ibl, .int .i64 ish, .slice At nt ct, .slice Ak L.length ck, .int .i64 tc, .int .u32 ts, .slice Ax nx cx] 35)
  have hb0 : Below w.heap.size w (w.alloc (.cells #[.int .i64 ik, .int .i64 ich, .int .i64 ibi, .int .i64 ira, .int .i64 ibl, .int .i64 ish, .slice At nt ct, .slice Ak L.length ck, .int .i64 tc, .int .u32 ts, .slice Ax nx cx] 35)) := (Below.refl _ w).alloc (Nat.le_refl _) _
  have hs0 : w.heap.size < (w.alloc (.cells #[.int .i64 ik, .int .i64 ich, .int .i64 ibi, .int .i64 ira, .int .i64 ibl, .int .i64 ish, .slice At nt ct, .slice Ak L.length ck, .int .i64 tc, .int .u32 ts, .slice Ax nx cx] 35)).heap.size := by simp
  have hz0 := heap_alloc_new (w.alloc (.cells #[.int .i64 ik, .int .i64 ich, .int .i64 ibi, .int .i64 ira, .int .i64 ibl, .int .i64 ish, .slice At nt ct, .slice Ak L.length ck, .int .i64 tc, .int .u32 ts, .slice Ax nx cx] 35)) (.cells #[.int .i64 0, .int .i64 0, .int .i64 0, .int .i64 0, .int .i64 0, .int .i64 0, .slice none 0 0, .slice none 0 0, .int .i64 0, .int .u32 0, .slice none 0 0] 43)
  have hb1 : Below (w.alloc (.cells #[.int .i64 ik, .int .i64 ich, .int .i64 ibi, .int .i64 ira, .int .i64 ibl, .int .i64 ish, .slice At nt ct, .slice Ak L.length ck, .int .i64 tc, .int .u32 ts, .slice Ax nx cx] 35)).heap.size (w.alloc (.cells #[.int .i64 ik, .int .i64 ich, .int .i64 ibi, .int .i64 ira, .int .i64 ibl, .int .i64 ish, .slice At nt ct, .slice Ak L.length ck, .int .i64 tc, .int .u32 ts, .slice Ax nx cx] 35)) ((w.alloc (.cells #[.int .i64 ik, .int .i64 ich, .int .i64 ibi, .int .i64 ira, .int .i64 ibl, .int .i64 ish, .slice At nt ct, .slice Ak L.length ck, .int .i64 tc, .int .u32 ts, .slice Ax nx cx] 35)).alloc (.cells #[.int .i64 0, .int .i64 0, .int .i64 0, .int .i64 0, .int .i64 0, .int .i64 0, .slice none 0 0, .slice none 0 0, .int .i64 0, .int .u32 0, .slice none 0 0] 43)) := (Below.refl _ _).alloc (Nat.le_refl _) _
  have hs1 : (w.alloc (.cells #[.int .i64 ik, .int .i64 ich, .int .i64 ibi, .int .i64 ira, .int .i64 ibl, .int .i64 ish, .slice At nt ct, .slice Ak L.length ck, .int .i64 tc, .int .u32 ts, .slice Ax nx cx] 35)).heap.size < ((w.alloc (.cells #[.int .i64 ik, .int .i64 ich, .int .i64 ibi, .int .i64 ira, .int .i64 ibl, .int .i64 ish, .slice At nt ct, .slice Ak L.length ck, .int .i64 tc, .int .u32 ts, .slice Ax nx cx] 35)).alloc (.cells #[.int .i64 0, .int .i64 0, .int .i64 0, .int .i64 0, .int .i64 0, .int .i64 0, .slice none 0 0, .slice none 0 0, .int .i64 0, .int .u32 0, .slice none 0 0] 43)).heap.size := by simp
  have hsz : (w.alloc (.cells #[.int .i64 ik, .int .i64 ich, .int .i64 ibi, .int .i64 ira, .int .i64 ibl, .int .i64 ish, .slice At nt ct, .slice Ak L.length ck, .int .i64 tc, .int .u32 ts, .slice Ax nx cx] 35)).heap.size = w.heap.size + 1 := by simp
  rw [hsz] at hz0 hb1 hs1 hs0
  clear hsz
  go_enter Tryz.func9, Tryz.ntmps9
  go_upto_region 1 with fail
  generalize w.alloc (.cells #[.int .i64 ik, .int .i64 ich, .int .i64 ibi, .int .i64 ira, .int .i64 ibl, .int .i64 ish, .slice At nt ct, .slice Ak L.length ck, .int .i64 tc, .int .u32 ts, .slice Ax nx cx] 35) = wa at *
  generalize wa.alloc (.cells #[.int .i64 0, .int .i64 0, .int .i64 0, .int .i64 0, .int .i64 0, .int .i64 0, .slice none 0 0, .slice none 0 0, .int .i64 0, .int .u32 0, .slice none 0 0] 43) = w3 at *
  have hg1 := (hb1.block w.heap.size (by omega)).trans hg0
  have hbw1 : Below w.heap.size w w3 := hb0.trans (hb1.mono (by omega))
  have hk1 := hk.below hbw1
  generalize hgg : w.heap.size = g at *
  clear hb0 hb1 hg0 hk
  have c6 : w3.cell? ⟨g, 6, none⟩ = some (.slice At nt ct) := by rw [cell_of_row _ _ _ _ _ _ hg1]; rfl
  have hbm0 : Below w3.heap.size w3 (w3.alloc (.cells #[.int .i64 ik, .int .i64 ich, .int .i64 ibi, .int .i64 ira, .int .i64 ibl, .int .i64 ish, .slice At nt ct, .slice none 0 0, .int .i64 tc, .int .u32 ts, .slice Ax nx cx] 43)) := (Below.refl _ _).alloc (Nat.le_refl _) _
  have hm0 := heap_alloc_new w3 (.cells #[.int .i64 ik, .int .i64 ich, .int .i64 ibi, .int .i64 ira, .int .i64 ibl, .int .i64 ish, .slice At nt ct, .slice none 0 0, .int .i64 tc, .int .u32 ts, .slice Ax nx cx] 43)
  have hmle : w3.heap.size + 1 ≤ (w3.alloc (.cells #[.int .i64 ik, .int .i64 ich, .int .i64 ibi, .int .i64 ira, .int .i64 ibl, .int .i64 ish, .slice At nt ct, .slice none 0 0, .int .i64 tc, .int .u32 ts, .slice Ax nx cx] 43)).heap.size := by simp
  have hz3 : g + 1 < w3.heap.size := (Array.getElem?_eq_some_iff.1 hz0).1
  go_upto_region 2 with first
    | (refine wpList_load_part rfl 27 (.tmp 5) rfl g 0 rfl #[.int .i64 ik, .int .i64 ich, .int .i64 ibi, .int .i64 ira, .int .i64 ibl, .int .i64 ish] _ 35 _ (0, 0) hg1 rfl Tryz.underlying27 rfl (by kernel_rfl) ?_)
    | (refine wpList_load_part rfl 33 (.tmp 9) rfl g 8 rfl #[.int .i64 tc, .int .u32 ts, .slice Ax nx cx] _ 35 _ (0, 0) hg1 rfl Tryz.underlying33 rfl (by kernel_rfl) ?_)
  generalize w3.alloc (.cells #[.int .i64 ik, .int .i64 ich, .int .i64 ibi, .int .i64 ira, .int .i64 ibl, .int .i64 ish, .slice At nt ct, .slice none 0 0, .int .i64 tc, .int .u32 ts, .slice Ax nx cx] 43) = w4 at *
  generalize hmeq : w3.heap.size = m at *
  replace hmeq := hid hmeq
  have cg7 : w3.cell? ⟨g, 7, none⟩ = some (.slice Ak L.length ck) := by rw [cell_of_row _ _ _ _ _ _ hg1]; rfl
  clear c6
  go_wp2_with fail
  go_loopw [4] (fun x4 wr => ∃ (n : Nat) (Aq : Option Addr) (cq : Nat), n ≤ L.length ∧ x4 = .int .i64 (n : Int) ∧ wr.heap[m]? = some (.cells #[.int .i64 ik, .int .i64 ich, .int .i64 ibi, .int .i64 ira, .int .i64 ibl, .int .i64 ish, .slice At nt ct, .slice Aq n cq, .int .i64 tc, .int .u32 ts, .slice Ax nx cx] 43 (0, 0)) ∧ wr.ownsRow (m + 1) 72 11 (.slice Aq n cq) n (flatM (L.take n)) ∧ Below m w3 wr ∧ m + 1 ≤ wr.heap.size) (fun x4 _ => L.length - (intOf x4).toNat)
  case atStart => exact ⟨0, none, 0, by omega, rfl, hm0, own_nil _ _ _ _, hbm0, hmle⟩
  case round =>
    obtain ⟨n, Aq, cq, hn, rfl, hm, ho, hbw, hmr⟩ := hrel
    clear hm0 hbm0 hmle
    have hbwm : Below w3.heap.size w3 wr := by rw [hmeq.out]; exact hbw
    have c7g := keep1 hbwm cg7
    by_cases hlt : n < L.length
    · have hni : (n : Int) < (L.length : Int) := by omega
      have dn : decide (n < L.length) = true := decide_eq_true hlt
      obtain ⟨x, hx⟩ : ∃ x, L[n]? = some x := ⟨_, List.getElem?_eq_getElem hlt⟩
      obtain ⟨ak, rfl, hcl⟩ := blk_cellsE hk1 hx
      have HCL := hid hcl
      have HFT := hid (flatM_take hx)
      clear hcl hx hk1 hg1
      go_wp2_with fail
      clear c7g
      refine wp_region_held_drew (S := fun W => Below w3.heap.size w3 W) (by kernel_rfl) (show Below w3.heap.size w3 wr.drew from hbwm.drew) (fun hHeld => ?_)
      replace hbwm : Below w3.heap.size w3 wr.drew := hbwm.drew
      replace hm : wr.drew.heap[m]? = some (.cells #[.int .i64 ik, .int .i64 ich, .int .i64 ibi, .int .i64 ira, .int .i64 ibl, .int .i64 ish, .slice At nt ct, .slice Aq n cq, .int .i64 tc, .int .u32 ts, .slice Ax nx cx] 43 (0, 0)) := hm
      replace ho : wr.drew.ownsRow (m + 1) 72 11 (.slice Aq n cq) n (flatM (L.take n)) := ho
      replace hmr : m + 1 ≤ wr.drew.heap.size := hmr
      clear hbw
      generalize wr.drew = w5 at *
      refine wpAnyH_takeD (i := 0) (d := some 19) (v := ?v100) rfl rfl (by kernel_rfl) (by kernel_rfl) (by kernel_rfl) (fun _ _ _ h => h) (Or.inl ⟨by rfl, ?hy100⟩) hHeld ?rest100
      case hy100 =>
        intro wS hS
        go_simp
        all_goals with_reducible rfl
      (try simp only [Act.put, List.setIfInBounds_toArray, List.set_cons_zero, List.set_cons_succ])
      refine wpAnyH_takeD (i := 2) (d := some 21) (v := ?v101) rfl rfl (by kernel_rfl) (by kernel_rfl) (by kernel_rfl) (fun _ _ _ h => h) (Or.inl ⟨by rfl, ?hy101⟩) hHeld ?rest101
      case hy101 =>
        intro wS hS
        go_simp
        all_goals with_reducible rfl
      (try simp only [Act.put, List.setIfInBounds_toArray, List.set_cons_zero, List.set_cons_succ])
      refine wpAnyH_takeD (i := 3) (d := some 22) (v := ?v102) rfl rfl (by kernel_rfl) (by kernel_rfl) (by kernel_rfl) (fun _ _ _ h => h) (Or.inl ⟨by rfl, ?hy102⟩) hHeld ?rest102
      case hy102 =>
        intro wS hS
        have k7 := keep1 hS cg7
        go_simp
        all_goals with_reducible rfl
      (try simp only [Act.put, List.setIfInBounds_toArray, List.set_cons_zero, List.set_cons_succ])
      refine wpAnyH_takeD (i := 4) (d := some 23) (v := ?v103) rfl rfl (by kernel_rfl) (by kernel_rfl) (by kernel_rfl) (fun _ _ _ h => h) (Or.inl ⟨by rfl, ?hy103⟩) hHeld ?rest103
      case hy103 =>
        intro wS hS
        go_simp
        all_goals with_reducible rfl
      (try simp only [Act.put, List.setIfInBounds_toArray, List.set_cons_zero, List.set_cons_succ])
      refine wpAnyH_takeD (i := 5) (d := some 24) (v := ?v104) rfl rfl (by kernel_rfl) (by kernel_rfl) (by kernel_rfl) (fun _ _ _ h => h) (Or.inl ⟨by rfl, ?hy104⟩) hHeld ?rest104
      case hy104 =>
        intro wS hS
        go_simp
        all_goals with_reducible rfl
      (try simp only [Act.put, List.setIfInBounds_toArray, List.set_cons_zero, List.set_cons_succ])
      refine wpAnyH_takeD (i := 6) (d := some 25) (v := .agg #[.int .i64 x.h.k, .int .i64 x.h.idx, .int .i64 x.h.len, .int .i64 x.h.stp, .int .i64 x.h.bnd, .bool x.h.lst, .int .u32 x.h.lnk, .int .i64 x.h.siz, .slice x.A x.p.length x.c, .int .u32 x.sum, .int .i64 (x.at_ : Int)]) rfl rfl (by kernel_rfl) (by kernel_rfl) (by kernel_rfl) (fun _ _ _ h => h) (Or.inl ⟨by rfl, ?hy105⟩) hHeld ?rest105
      case hy105 =>
        intro wS hS
        exact run_load_anyE 78 (.tmp 24) rfl (ak.add (n * 11)) (by rfl) #[.int .i64 x.h.k, .int .i64 x.h.idx, .int .i64 x.h.len, .int .i64 x.h.stp, .int .i64 x.h.bnd, .bool x.h.lst, .int .u32 x.h.lnk, .int .i64 x.h.siz, .slice x.A x.p.length x.c, .int .u32 x.sum, .int .i64 (x.at_ : Int)] _ (fun j v hv => keep1 hS (HCL.out j v hv)) Tryz.underlying78 rfl (by kernel_rfl)
      (try simp only [Act.put, List.setIfInBounds_toArray, List.set_cons_zero, List.set_cons_succ])
      refine wpAnyH_ready (rs := [1, 7]) (by kernel_rfl) (by simp) (AllReadyH.cons rfl (fun K hK => ?_) (AllReadyH.cons rfl (fun K hK => ?_) AllReadyH.nil))
      · rw [if_pos (by rfl)]
        have k7m : w5.cell? ⟨m, 7, none⟩ = some (.slice Aq n cq) := by rw [cell_of_row _ _ _ _ _ _ hm]; rfl
        go_simp
        refine hK.out _ _ hbwm (fun hHeld => ?_)
        clear hK K
        (try simp only [Act.put, List.setIfInBounds_toArray, List.set_cons_zero, List.set_cons_succ])
        clear k7m
        refine wpAnyH_ready (rs := [7]) (by kernel_rfl) (by simp) (AllReadyH.cons rfl (fun K hK => ?_) AllReadyH.nil)
        rw [if_pos (by rfl)]
        have hba : Below w5.heap.size w5 (w5.alloc (.cells #[.int .i64 x.h.k, .int .i64 x.h.idx, .int .i64 x.h.len, .int .i64 x.h.stp, .int .i64 x.h.bnd, .bool x.h.lst, .int .u32 x.h.lnk, .int .i64 x.h.siz, .slice x.A x.p.length x.c, .int .u32 x.sum, .int .i64 (x.at_ : Int)] 72)) := (Below.refl _ _).alloc (Nat.le_refl _) _
        have hm6 := (hba.block m hmr).trans hm
        have ho6 := own_keepF ho hba
        have hbw6 : Below w3.heap.size w3 (w5.alloc (.cells #[.int .i64 x.h.k, .int .i64 x.h.idx, .int .i64 x.h.len, .int .i64 x.h.stp, .int .i64 x.h.bnd, .bool x.h.lst, .int .u32 x.h.lnk, .int .i64 x.h.siz, .slice x.A x.p.length x.c, .int .u32 x.sum, .int .i64 (x.at_ : Int)] 72)) := hbwm.trans (hba.mono (by rw [hmeq.out]; omega))
        have hmr6 := Nat.le_trans hmr hba.size
        have hseen : Sees (w5.alloc (.cells #[.int .i64 x.h.k, .int .i64 x.h.idx, .int .i64 x.h.len, .int .i64 x.h.stp, .int .i64 x.h.bnd, .bool x.h.lst, .int .u32 x.h.lnk, .int .i64 x.h.siz, .slice x.A x.p.length x.c, .int .u32 x.sum, .int .i64 (x.at_ : Int)] 72)) (some ⟨w5.heap.size, 0, none⟩) (flatM [x]) := Sees.of_alloc _ _ _ rfl
        clear hba hm ho hbwm hmr
        go_simp
        generalize w5.heap.size = gn at *
        generalize w5.alloc (.cells #[.int .i64 x.h.k, .int .i64 x.h.idx, .int .i64 x.h.len, .int .i64 x.h.stp, .int .i64 x.h.bnd, .bool x.h.lst, .int .u32 x.h.lnk, .int .i64 x.h.siz, .slice x.A x.p.length x.c, .int .u32 x.sum, .int .i64 (x.at_ : Int)] 72) = w6 at *
        refine hK.out _ _ hbw6 (fun hHeld => ?_)
        clear hK K
        (try simp only [Act.put, List.setIfInBounds_toArray, List.set_cons_zero, List.set_cons_succ])
        refine wpAnyH_ready (rs := [8]) (by kernel_rfl) (by simp) (AllReadyH.cons rfl (fun K hK => ?_) AllReadyH.nil)
        rw [if_pos (by rfl)]
        refine wp_app (.tmp 20) (.tmp 26) _ rfl elKR rfl ho6 (some ⟨gn, 0, none⟩) 1 1 rfl (flatM [x]) hseen (by rw [flatM_len]; rfl) (flatM_one _) (n + 1) rfl (flatM (L.take (n + 1))) HFT.out (by unfold maxLen; omega) (by omega) hmr6 ?_
        intro Aq2 cq2 w7 ho7 hgr hat hbel
        have hB := But.of_grown hgr hbel
        have hm7 := (hB.block m (Array.getElem?_eq_some_iff.1 hm6).1 (own_other ho6 hm6 (by decide))).trans hm6
        have hbw7 : Below w3.heap.size w3 w7 := hbw6.trans (hbel.mono (by rw [hmeq.out]; omega))
        have hmr7 := Nat.le_trans hmr6 hbel.size
        clear hgr hat hbel hB hm6 ho6 hbw6 hmr6 hseen
        refine hK.out _ _ hbw7 (fun hHeld => ?_)
        clear hK K
        (try simp only [Act.put, List.setIfInBounds_toArray])
        refine wpAnyH_takeD (i := 9) (d := some 28) (v := ?v106) rfl rfl (by kernel_rfl) (by kernel_rfl) (by kernel_rfl) (fun _ _ _ h => h) (Or.inl ⟨by rfl, ?hy106⟩) hHeld ?rest106
        case hy106 =>
          intro wS hS
          go_simp
          all_goals with_reducible rfl
        (try simp only [Act.put])
        refine wpAnyH_ready (rs := [10]) (by kernel_rfl) (by simp) (AllReadyH.cons rfl (fun K hK => ?_) AllReadyH.nil)
        rw [if_pos (by rfl)]
        have c7m : w7.cell? ⟨m, 7, none⟩ = some (.slice Aq n cq) := by rw [cell_of_row _ _ _ _ _ _ hm7]; rfl
        have f7m : w7.frozen? ⟨m, 7, none⟩ = false := frozen_of_row _ _ _ _ _ hm7
        have hm8 : (w7.setCell ⟨m, 7, none⟩ (.slice Aq2 (n + 1) cq2)).heap[m]? = some (.cells #[.int .i64 ik, .int .i64 ich, .int .i64 ibi, .int .i64 ira, .int .i64 ibl, .int .i64 ish, .slice At nt ct, .slice Aq2 (n + 1) cq2, .int .i64 tc, .int .u32 ts, .slice Ax nx cx] 43 (0, 0)) := heap_setCell_same w7 m 7 _ 43 (.slice Aq2 (n + 1) cq2) hm7
        have ho8 := own_but ho7 (but_cell m 7 (.slice Aq2 (n + 1) cq2)) (fun k hk hh => own_other ho7 hm7 (by decide) (by have h2 : k = m := hh; rw [← h2]; exact hk))
        have hbw8 := But.below hbw7 (but_cell m 7 (.slice Aq2 (n + 1) cq2)) (fun bb hh => by have h2 : bb = m := hh; rw [hmeq.out]; omega) hbw7.size
        have hmr8 : m + 1 ≤ (w7.setCell ⟨m, 7, none⟩ (.slice Aq2 (n + 1) cq2)).heap.size := Nat.le_trans hmr7 (but_cell m 7 (.slice Aq2 (n + 1) cq2)).size
        clear hm7 ho7 hbw7 hmr7
        go_simp
        clear c7m f7m
        generalize w7.setCell ⟨m, 7, none⟩ (.slice Aq2 (n + 1) cq2) = w8 at *
        refine hK.out _ _ hbw8 (fun hHeld => ?_)
        clear hK K
        (try simp only [Act.put, List.setIfInBounds_toArray, List.set_cons_zero, List.set_cons_succ])
        refine wpAnyH_done (by kernel_rfl) ?_ _
        clear hHeld
        go_wp2_with fail
        refine ⟨⟨n + 1, Aq2, cq2, hlt, by go_num, hm8, ho8, by rw [← hmeq.out]; exact hbw8, hmr8⟩, by simp [intOf]; omega⟩
      · rw [if_pos (by rfl)]
        have hba : Below w5.heap.size w5 (w5.alloc (.cells #[.int .i64 x.h.k, .int .i64 x.h.idx, .int .i64 x.h.len, .int .i64 x.h.stp, .int .i64 x.h.bnd, .bool x.h.lst, .int .u32 x.h.lnk, .int .i64 x.h.siz, .slice x.A x.p.length x.c, .int .u32 x.sum, .int .i64 (x.at_ : Int)] 72)) := (Below.refl _ _).alloc (Nat.le_refl _) _
        have hm6 := (hba.block m hmr).trans hm
        have ho6 := own_keepF ho hba
        have hbw6 : Below w3.heap.size w3 (w5.alloc (.cells #[.int .i64 x.h.k, .int .i64 x.h.idx, .int .i64 x.h.len, .int .i64 x.h.stp, .int .i64 x.h.bnd, .bool x.h.lst, .int .u32 x.h.lnk, .int .i64 x.h.siz, .slice x.A x.p.length x.c, .int .u32 x.sum, .int .i64 (x.at_ : Int)] 72)) := hbwm.trans (hba.mono (by rw [hmeq.out]; omega))
        have hmr6 := Nat.le_trans hmr hba.size
        have hseen : Sees (w5.alloc (.cells #[.int .i64 x.h.k, .int .i64 x.h.idx, .int .i64 x.h.len, .int .i64 x.h.stp, .int .i64 x.h.bnd, .bool x.h.lst, .int .u32 x.h.lnk, .int .i64 x.h.siz, .slice x.A x.p.length x.c, .int .u32 x.sum, .int .i64 (x.at_ : Int)] 72)) (some ⟨w5.heap.size, 0, none⟩) (flatM [x]) := Sees.of_alloc _ _ _ rfl
        clear hba hm ho hbwm hmr
        go_simp
        generalize w5.heap.size = gn at *
        generalize w5.alloc (.cells #[.int .i64 x.h.k, .int .i64 x.h.idx, .int .i64 x.h.len, .int .i64 x.h.stp, .int .i64 x.h.bnd, .bool x.h.lst, .int .u32 x.h.lnk, .int .i64 x.h.siz, .slice x.A x.p.length x.c, .int .u32 x.sum, .int .i64 (x.at_ : Int)] 72) = w6 at *
        refine hK.out _ _ hbw6 (fun hHeld => ?_)
        clear hK K
        (try simp only [Act.put, List.setIfInBounds_toArray, List.set_cons_zero, List.set_cons_succ])
        refine wpAnyH_ready (rs := [1]) (by kernel_rfl) (by simp) (AllReadyH.cons rfl (fun K hK => ?_) AllReadyH.nil)
        rw [if_pos (by rfl)]
        have k7m : w6.cell? ⟨m, 7, none⟩ = some (.slice Aq n cq) := by rw [cell_of_row _ _ _ _ _ _ hm6]; rfl
        go_simp
        refine hK.out _ _ hbw6 (fun hHeld => ?_)
        clear hK K
        (try simp only [Act.put, List.setIfInBounds_toArray, List.set_cons_zero, List.set_cons_succ])
        clear k7m
        refine wpAnyH_ready (rs := [8]) (by kernel_rfl) (by simp) (AllReadyH.cons rfl (fun K hK => ?_) AllReadyH.nil)
        rw [if_pos (by rfl)]
        refine wp_app (.tmp 20) (.tmp 26) _ rfl elKR rfl ho6 (some ⟨gn, 0, none⟩) 1 1 rfl (flatM [x]) hseen (by rw [flatM_len]; rfl) (flatM_one _) (n + 1) rfl (flatM (L.take (n + 1))) HFT.out (by unfold maxLen; omega) (by omega) hmr6 ?_
        intro Aq2 cq2 w7 ho7 hgr hat hbel
        have hB := But.of_grown hgr hbel
        have hm7 := (hB.block m (Array.getElem?_eq_some_iff.1 hm6).1 (own_other ho6 hm6 (by decide))).trans hm6
        have hbw7 : Below w3.heap.size w3 w7 := hbw6.trans (hbel.mono (by rw [hmeq.out]; omega))
        have hmr7 := Nat.le_trans hmr6 hbel.size
        clear hgr hat hbel hB hm6 ho6 hbw6 hmr6 hseen
        refine hK.out _ _ hbw7 (fun hHeld => ?_)
        clear hK K
        (try simp only [Act.put, List.setIfInBounds_toArray])
        refine wpAnyH_takeD (i := 9) (d := some 28) (v := ?v107) rfl rfl (by kernel_rfl) (by kernel_rfl) (by kernel_rfl) (fun _ _ _ h => h) (Or.inl ⟨by rfl, ?hy107⟩) hHeld ?rest107
        case hy107 =>
          intro wS hS
          go_simp
          all_goals with_reducible rfl
        (try simp only [Act.put])
        refine wpAnyH_ready (rs := [10]) (by kernel_rfl) (by simp) (AllReadyH.cons rfl (fun K hK => ?_) AllReadyH.nil)
        rw [if_pos (by rfl)]
        have c7m : w7.cell? ⟨m, 7, none⟩ = some (.slice Aq n cq) := by rw [cell_of_row _ _ _ _ _ _ hm7]; rfl
        have f7m : w7.frozen? ⟨m, 7, none⟩ = false := frozen_of_row _ _ _ _ _ hm7
        have hm8 : (w7.setCell ⟨m, 7, none⟩ (.slice Aq2 (n + 1) cq2)).heap[m]? = some (.cells #[.int .i64 ik, .int .i64 ich, .int .i64 ibi, .int .i64 ira, .int .i64 ibl, .int .i64 ish, .slice At nt ct, .slice Aq2 (n + 1) cq2, .int .i64 tc, .int .u32 ts, .slice Ax nx cx] 43 (0, 0)) := heap_setCell_same w7 m 7 _ 43 (.slice Aq2 (n + 1) cq2) hm7
        have ho8 := own_but ho7 (but_cell m 7 (.slice Aq2 (n + 1) cq2)) (fun k hk hh => own_other ho7 hm7 (by decide) (by have h2 : k = m := hh; rw [← h2]; exact hk))
        have hbw8 := But.below hbw7 (but_cell m 7 (.slice Aq2 (n + 1) cq2)) (fun bb hh => by have h2 : bb = m := hh; rw [hmeq.out]; omega) hbw7.size
        have hmr8 : m + 1 ≤ (w7.setCell ⟨m, 7, none⟩ (.slice Aq2 (n + 1) cq2)).heap.size := Nat.le_trans hmr7 (but_cell m 7 (.slice Aq2 (n + 1) cq2)).size
        clear hm7 ho7 hbw7 hmr7
        go_simp
        clear c7m f7m
        generalize w7.setCell ⟨m, 7, none⟩ (.slice Aq2 (n + 1) cq2) = w8 at *
        refine hK.out _ _ hbw8 (fun hHeld => ?_)
        clear hK K
        (try simp only [Act.put, List.setIfInBounds_toArray, List.set_cons_zero, List.set_cons_succ])
        refine wpAnyH_done (by kernel_rfl) ?_ _
        clear hHeld
        go_wp2_with fail
        refine ⟨⟨n + 1, Aq2, cq2, hlt, by go_num, hm8, ho8, by rw [← hmeq.out]; exact hbw8, hmr8⟩, by simp [intOf]; omega⟩
    · obtain rfl : n = L.length := by omega
      have dn : decide (L.length < L.length) = false := by simp
      rw [List.take_length] at ho
      have hzr := (hbw.block (g + 1) (by omega)).trans hz0
      have hcap := own_cap ho
      have hAb := fun x hx => (own_addr ho (a := x) hx).1
      have hse := own_sees ho
      have hbwX := hbw1.trans (hbw.mono (by omega))
      have HFIN : Sees (wr.setRow (g + 1) #[.int .i64 ik, .int .i64 ich, .int .i64 ibi, .int .i64 ira, .int .i64 ibl, .int .i64 ish, .slice At nt ct, .slice Aq L.length cq, .int .i64 tc, .int .u32 ts, .slice Ax nx cx]) Aq (flatM L) := Sees.setRowFar hse (g + 1) _ (fun x hx => by have := hAb x hx; omega)
      clear hse ho cg7 hk1 hg1 hbwm hbw
      go_wp2_with first
        | (refine wpList_load_row rfl 43 (.tmp 3) rfl m rfl 43 #[.int .i64 ik, .int .i64 ich, .int .i64 ibi, .int .i64 ira, .int .i64 ibl, .int .i64 ish, .slice At nt ct, .slice Aq L.length cq, .int .i64 tc, .int .u32 ts, .slice Ax nx cx] (0, 0) _ hm Tryz.underlying43 rfl (by kernel_rfl) ?_)
        | (refine wpList_store_row rfl 43 (.tmp 2) (.tmp 29) rfl rfl (g + 1) rfl #[.int .i64 ik, .int .i64 ich, .int .i64 ibi, .int .i64 ira, .int .i64 ibl, .int .i64 ish, .slice At nt ct, .slice Aq L.length cq, .int .i64 tc, .int .u32 ts, .slice Ax nx cx] rfl 43 #[.int .i64 0, .int .i64 0, .int .i64 0, .int .i64 0, .int .i64 0, .int .i64 0, .slice none 0 0, .slice none 0 0, .int .i64 0, .int .u32 0, .slice none 0 0] hzr (by kernel_rfl) rfl (by simp [Value.oneCell']) ?_)
      refine bodyPost_ret (v := .agg #[.int .i64 ik, .int .i64 ich, .int .i64 ibi, .int .i64 ira, .int .i64 ibl, .int .i64 ish, .slice At nt ct, .slice Aq L.length cq, .int .i64 tc, .int .u32 ts, .slice Ax nx cx]) (results_row1 (fn := Tryz.f9) (p := 2) (ty := 43) rfl _ _ (g + 1) _ _ _ _ rfl (setRow_heap _ _ _ _ _ _ hzr) Tryz.underlying43 rfl (by kernel_rfl)) rfl ?_
      exact ⟨Aq, cq, rfl, HFIN, hcap.1, hcap.2, by rw [hgg]; exact below_setRow hbwX (Nat.le_succ g) _⟩
end Go.Proofs.YtkmhmehofipehaaGreatDoor
/- Tags compared: the reference's. -/
namespace Go.Proofs.YtkmhmehofipehaaGreatDoor
set_option linter.unusedVariables false
open Go.RowKit
def sameTag (x y : TagV) : Bool := (x.k.toList == y.k.toList) && (x.v.toList == y.v.toList)
theorem eq_tag (x y : TagV) (w : World) :
    (Op.equalIn 10000 100 (.agg #[.string x.k, .string x.v]) (.agg #[.string y.k, .string y.v])).run Tryz.prog w = .ok (sameTag x y) w := by
  have u3 := Tryz.underlying9
  have a3 := Tryz.isAgg9
  have z3 := Tryz.sizeOf9
  have hS : Tryz.prog.underlying 100 = some (.struct (Tryz.prog.fieldsOf 100)) := by kernel_rfl
  have hp : Tryz.prog.stoodInHeld 100 = false := by kernel_rfl
  unfold sameTag
  generalize hb : (x.k.toList == y.k.toList) = b
  generalize hd : (x.v.toList == y.v.toList) = d
  rw [show (10000 : Nat) = 9999 + 1 from rfl, run_equalIn_agg w 9999 100 _ _ hS hp]
  simp only [Program.fieldsOf, Tryz.underlying100]
  cases b <;> cases d <;> go_simp
def pairs (l : List TagV) : List (ByteArray × ByteArray) := l.map fun t => (t.k, t.v)
def sameT (l m : List TagV) : Bool := decide (pairs l = pairs m)
theorem sameTag_iff (x y : TagV) : sameTag x y = true ↔ (x.k, x.v) = (y.k, y.v) := by
  unfold sameTag
  rw [list_eql, list_eql, Bool.and_eq_true, decide_eq_true_iff, decide_eq_true_iff, Prod.mk.injEq]
theorem pairs_succ (l : List TagV) (k : Nat) (h : k < l.length) : pairs (l.take (k + 1)) = pairs (l.take k) ++ [(l[k].k, l[k].v)] := by
  unfold pairs
  rw [List.take_succ_eq_append_getElem h, List.map_append]
  rfl
theorem pairs_ne {l m : List TagV} {k : Nat} (h : k < l.length) (h' : k < m.length) (hne : (l[k].k, l[k].v) ≠ (m[k].k, m[k].v)) : sameT l m = false := by
  apply decide_eq_false
  intro he
  apply hne
  have h1 : (pairs l)[k]? = (pairs m)[k]? := by rw [he]
  unfold pairs at h1
  rw [List.getElem?_map, List.getElem?_map, List.getElem?_eq_getElem h, List.getElem?_eq_getElem h'] at h1
  simpa using h1
theorem pairs_len {l m : List TagV} (h : l.length ≠ m.length) : sameT l m = false := by
  apply decide_eq_false
  intro he
  apply h
  have := congrArg List.length he
  simpa [pairs] using this
theorem sameT_refl (l : List TagV) : sameT l l = true := decide_eq_true rfl
set_option maxRecDepth 20000 in
set_option maxHeartbeats 4000000 in
theorem rsameT_any (A B : Option Addr) (c d : Nat) (l m : List TagV) (w : World) (hl : SeesT w A l) (hm : SeesT w B m) (h1 : l.length ≤ maxLen) (h2 : m.length ≤ maxLen) :
    Calls Tryz.prog 23 #[.slice A l.length c, .slice B m.length d] w fun e w' => e = .returned (.bool (sameT l m)) ∧ Below w.heap.size w w' := by
  unfold maxLen at h1 h2
  obtain ⟨R, hR⟩ : ∃ R, R = sameT l m := ⟨_, rfl⟩
  rw [← hR]
  by_cases hlen : l.length = m.length
  · have dn : ((l.length : Int) != (m.length : Int)) = false := by simp [hlen]
    have HR := hid hR
    have HLEN := hid hlen
    clear hR hlen
    go_enter Tryz.func23, Tryz.ntmps23
    go_wp2_with fail
    go_loopw [5] (fun i wr => ∃ k : Nat, k ≤ l.length ∧ i = .int .i64 (k : Int) ∧ Below w.heap.size w wr ∧ Hid (pairs (l.take k) = pairs (m.take k))) (fun i _ => l.length - (intOf i).toNat)
    case atStart => exact ⟨0, by omega, rfl, Below.refl _ _, hid rfl⟩
    case round =>
      obtain ⟨k, hk, rfl, hbr, hE⟩ := hrel
      by_cases hlt : k < l.length
      · have dk : decide ((k : Int) < (l.length : Int)) = true := decide_eq_true (by omega)
        have hltm : k < m.length := by rw [← HLEN.out]; exact hlt
        have dkl : (k : Int) < (l.length : Int) := by omega
        have dkm : (k : Int) < (m.length : Int) := by omega
        obtain ⟨a, rfl, x1, x2⟩ := (hl.below hbr).at hlt
        obtain ⟨b, rfl, y1, y2⟩ := (hm.below hbr).at hltm
        have HS1 := hid (pairs_succ l k hlt)
        have HS2 := hid (pairs_succ m k hltm)
        have HNE := hid (fun h => pairs_ne hlt hltm h)
        have hq := eq_tag l[k] m[k]
        have hqe := hid (sameTag_iff l[k] m[k])
        generalize l[k] = x at *
        generalize m[k] = y at *
        obtain ⟨xk, xv⟩ := x
        obtain ⟨yk, yv⟩ := y
        simp only at x1 x2 y1 y2 hq
        generalize sameTag ⟨xk, xv⟩ ⟨yk, yv⟩ = q at *
        clear hl hm
        cases q with
        | true =>
          have HE2 := hid (show pairs (l.take (k + 1)) = pairs (m.take (k + 1)) by rw [HS1.out, HS2.out, hE.out, hqe.out.1 rfl])
          go_wp2_with (go_quiet (fail))
          exact ⟨⟨k + 1, by omega, by go_num, ⟨hbr.os, hbr.tape, hbr.output, hbr.size, hbr.block⟩, HE2⟩, by simp [intOf]; omega⟩
        | false =>
          obtain rfl : R = false := by rw [HR.out]; exact HNE.out (fun h => by have := hqe.out.2 h; simp at this)
          clear HR HNE
          go_wp2_with (go_quiet (fail))
          go_ret
          exact ⟨rfl, ⟨hbr.os, hbr.tape, hbr.output, hbr.size, hbr.block⟩⟩
      · obtain rfl : k = l.length := by omega
        have dk : decide ((l.length : Int) < (l.length : Int)) = false := decide_eq_false (by omega)
        obtain rfl : R = true := by
          rw [HR.out]
          have := hE.out
          rw [List.take_length, HLEN.out, List.take_length] at this
          exact decide_eq_true this
        clear HR
        go_wp2_with fail
        go_ret
        exact ⟨rfl, hbr⟩
  · have dn : ((l.length : Int) != (m.length : Int)) = true := by simp; omega
    obtain rfl : R = false := by rw [hR]; exact pairs_len hlen
    clear hR
    go_enter Tryz.func23, Tryz.ntmps23
    go_wp2_with fail
    go_ret
    exact ⟨rfl, Below.refl _ _⟩
end Go.Proofs.YtkmhmehofipehaaGreatDoor
