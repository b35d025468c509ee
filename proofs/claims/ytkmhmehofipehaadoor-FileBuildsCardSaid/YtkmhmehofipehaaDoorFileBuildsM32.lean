/- Any parts put together: the reference's Build. -/
import Derived.Test.YtkmhmehofipehaaDoorFileBuildsM29
import Derived.Test.YtkmhmehofipehaaDoorFileBuildsM30
import Derived.Test.YtkmhmehofipehaaDoorFileBuildsM31
import Derived.BigQuiet
namespace Go.Proofs.YtkmhmehofipehaaDoor
set_option linter.unusedVariables false
open Go.RowKit
theorem tail_stores (w : World) (gt gh gi : Nat) (cnt sum hlen ibl : Int) (Ap A4 : Option Addr) (np cp c4 : Nat) (hs is : Array Value)
    (hgt : w.heap[gt]? = some (.cells #[.int .i64 cnt, .int .u32 sum, .slice Ap np cp] 43 (0, 0))) (hgh : w.heap[gh]? = some (.cells hs 52 (0, 0))) (hh2 : hs[2]? = some (.int .i64 hlen)) (hgi : w.heap[gi]? = some (.cells is 25 (0, 0))) (hi4 : is[4]? = some (.int .i64 ibl)) (h1 : gt ≠ gh) (h2 : gt ≠ gi) :
    w.cell? ⟨gt, 2, none⟩ = some (.slice Ap np cp) ∧ w.frozen? ⟨gt, 2, none⟩ = false ∧ (w.setCell ⟨gt, 2, none⟩ (.slice A4 (np + 1) c4)).cell? ⟨gt, 0, none⟩ = some (.int .i64 cnt) ∧ (w.setCell ⟨gt, 2, none⟩ (.slice A4 (np + 1) c4)).cell? ⟨gh, 2, none⟩ = some (.int .i64 hlen) ∧ (w.setCell ⟨gt, 2, none⟩ (.slice A4 (np + 1) c4)).frozen? ⟨gt, 0, none⟩ = false ∧
      ((w.setCell ⟨gt, 2, none⟩ (.slice A4 (np + 1) c4)).setCell ⟨gt, 0, none⟩ (.int .i64 (cnt + hlen))).cell? ⟨gh, 2, none⟩ = some (.int .i64 hlen) ∧ ((w.setCell ⟨gt, 2, none⟩ (.slice A4 (np + 1) c4)).setCell ⟨gt, 0, none⟩ (.int .i64 (cnt + hlen))).cell? ⟨gi, 4, none⟩ = some (.int .i64 ibl) ∧
      ((w.setCell ⟨gt, 2, none⟩ (.slice A4 (np + 1) c4)).setCell ⟨gt, 0, none⟩ (.int .i64 (cnt + hlen))).heap[gt]? = some (.cells #[.int .i64 (cnt + hlen), .int .u32 sum, .slice A4 (np + 1) c4] 43 (0, 0)) ∧
      ((w.setCell ⟨gt, 2, none⟩ (.slice A4 (np + 1) c4)).setCell ⟨gt, 0, none⟩ (.int .i64 (cnt + hlen))).heap[gi]? = some (.cells is 25 (0, 0)) ∧ But (Only gt) w ((w.setCell ⟨gt, 2, none⟩ (.slice A4 (np + 1) c4)).setCell ⟨gt, 0, none⟩ (.int .i64 (cnt + hlen))) := by
  have a1 := heap_setCell_same w gt 2 _ _ (.slice A4 (np + 1) c4) hgt
  have a2 := (heap_setCell_other w ⟨gt, 2, none⟩ gh (.slice A4 (np + 1) c4) (Ne.symm h1)).trans hgh
  have a3 := (heap_setCell_other w ⟨gt, 2, none⟩ gi (.slice A4 (np + 1) c4) (Ne.symm h2)).trans hgi
  have aB : But (Only gt) w (w.setCell ⟨gt, 2, none⟩ (.slice A4 (np + 1) c4)) := ⟨rfl, rfl, rfl, by simp [World.setCell], fun b _ hb => heap_setCell_other w _ b _ (fun h => hb h)⟩
  have b1 := heap_setCell_same _ gt 0 _ _ (.int .i64 (cnt + hlen)) a1
  have b2 := (heap_setCell_other (w.setCell ⟨gt, 2, none⟩ (.slice A4 (np + 1) c4)) ⟨gt, 0, none⟩ gh (.int .i64 (cnt + hlen)) (Ne.symm h1)).trans a2
  have b3 := (heap_setCell_other (w.setCell ⟨gt, 2, none⟩ (.slice A4 (np + 1) c4)) ⟨gt, 0, none⟩ gi (.int .i64 (cnt + hlen)) (Ne.symm h2)).trans a3
  have bB : But (Only gt) (w.setCell ⟨gt, 2, none⟩ (.slice A4 (np + 1) c4)) ((w.setCell ⟨gt, 2, none⟩ (.slice A4 (np + 1) c4)).setCell ⟨gt, 0, none⟩ (.int .i64 (cnt + hlen))) := ⟨rfl, rfl, rfl, by simp [World.setCell], fun b _ hb => heap_setCell_other _ _ b _ (fun h => hb h)⟩
  exact ⟨by rw [cell_of_row _ _ _ _ _ _ hgt]; rfl, frozen_of_row _ _ _ _ _ hgt, by rw [cell_of_row _ _ _ _ _ _ a1]; rfl, by rw [cell_of_row _ _ _ _ _ _ a2]; exact hh2, frozen_of_row _ _ _ _ _ a1, by rw [cell_of_row _ _ _ _ _ _ b2]; exact hh2, by rw [cell_of_row _ _ _ _ _ _ b3]; exact hi4, b1, b3, aB.trans bB (fun n h => .inl h)⟩
set_option maxRecDepth 20000 in
set_option maxHeartbeats 4000000 in
theorem rbuild_info (i : InfoV) (v u : Value) (sum : Int) (w : World) (hr : i.right = false) :
    Calls Tryd.prog 12 #[i.v, v, u, .int .u32 sum] w (BPost w (32, [])) := by
  obtain ⟨k, ch, bi, ra, bl, sh⟩ := i
  unfold InfoV.v
  unfold InfoV.right at hr
  simp only at hr ⊢
  have hb : Below w.heap.size w (w.alloc (.cells #[.int .i64 k, .int .i64 ch, .int .i64 bi, .int .i64 ra, .int .i64 bl, .int .i64 sh] 25)) := (Below.refl _ w).alloc (Nat.le_refl _) _
  have hrow := heap_alloc_new w (.cells #[.int .i64 k, .int .i64 ch, .int .i64 bi, .int .i64 ra, .int .i64 bl, .int .i64 sh] 25)
  go_enter Tryd.func12, Tryd.ntmps12
  go_wp2_with fail
  refine (riright_any k ch bi ra bl sh _).mono ?_
  rintro e w1 ⟨rfl, hb1⟩
  rw [hr]
  go_wp2_with fail
  go_ret2
  exact bpost_bad 32 (hb.trans (hb1.mono hb.size))
set_option maxRecDepth 20000 in
set_option maxHeartbeats 4000000 in
theorem rbuild_tags (i : InfoV) (A0 : Option Addr) (c0 : Nat) (l : List TagV) (u : Value) (sum : Int) (w : World) (hr : i.right = true) (hl : SeesT w A0 l) (hlc : l.length ≤ c0) (hlen : l.length ≤ maxLen) (hs : Brief l) (hz : (checkT l).2 ≠ 0) :
    Calls Tryd.prog 12 #[i.v, .slice A0 l.length c0, u, .int .u32 sum] w (BPost w ((checkT l).2, [])) := by
  obtain ⟨k, ch, bi, ra, bl, sh⟩ := i
  unfold InfoV.v
  unfold InfoV.right at hr
  simp only at hr ⊢
  have hb : Below w.heap.size w (w.alloc (.cells #[.int .i64 k, .int .i64 ch, .int .i64 bi, .int .i64 ra, .int .i64 bl, .int .i64 sh] 25)) := (Below.refl _ w).alloc (Nat.le_refl _) _
  have hrow := heap_alloc_new w (.cells #[.int .i64 k, .int .i64 ch, .int .i64 bi, .int .i64 ra, .int .i64 bl, .int .i64 sh] 25)
  have hC := hid (fun W (hb : Below w.heap.size w W) => rcheck_any A0 c0 l W (hl.below hb) hlc hlen hs)
  generalize checkT l = zy at *
  obtain ⟨z, y⟩ := zy
  simp only at hz hC ⊢
  have dE : (y != 0) = true := by simpa using hz
  clear hz hl hs
  go_enter Tryd.func12, Tryd.ntmps12
  go_wp2_with fail
  refine (riright_any k ch bi ra bl sh _).mono ?_
  rintro e w1 ⟨rfl, hb1⟩
  rw [hr]
  have hbw1 := hb.trans (hb1.mono hb.size)
  go_wp2_with fail
  refine (hC.out w1 hbw1).mono ?_
  rintro e w2 ⟨rfl, hb2⟩
  go_wp2_with fail
  go_ret2
  exact bpost_bad y (hbw1.trans (hb2.mono hbw1.size))
set_option maxRecDepth 20000 in
set_option maxHeartbeats 4000000 in
theorem rbuild_all (i : InfoV) (A0 : Option Addr) (c0 : Nat) (l : List TagV) (B0 : Option Addr) (d0 : Nat) (bs : List BlkV) (sum : Nat) (w : World) (hr : i.right = true) (hl : SeesT w A0 l) (hlc : l.length ≤ c0) (hlen : l.length ≤ maxLen) (hs : Brief l) (hz : (checkT l).2 = 0)
    (hk : SeesK w B0 bs) (hb12 : bs.length ≤ 12) (hb300 : ∀ x ∈ bs, x.l.length ≤ 300) (hsum : sum < 4294967296) :
    Calls Tryd.prog 12 #[i.v, .slice A0 l.length c0, .slice B0 bs.length d0, .int .u32 (sum : Int)] w (BPost w (endF (addAll i (bs.map BlkV.l) (startF i l)) sum)) := by
  have hbi : 8 ≤ i.bi ∧ i.bi ≤ 24 := (InfoV.range hr).2.2.1
  obtain ⟨R, hR⟩ : ∃ R, R = addAll i (bs.map BlkV.l) (startF i l) := ⟨_, rfl⟩
  rw [← hR]
  have hS := short_of hz
  have hso := startF_ok i hS
  have hsr := start_rise i l
  obtain ⟨k, ch, bi, ra, bl, sh, hi, hrr, hkk, hib⟩ := InfoV.nats hr
  have hout : (startF i l).out = sealed (infoHead k ch bi sh ra bl) ++ sealed (tagsB l) := by unfold startF; rw [hib]
  have hb : Below w.heap.size w (w.alloc (.cells #[.int .i64 k, .int .i64 ch, .int .i64 bi, .int .i64 ra, .int .i64 bl, .int .i64 sh] 25)) := (Below.refl _ w).alloc (Nat.le_refl _) _
  have hrow := heap_alloc_new w (.cells #[.int .i64 k, .int .i64 ch, .int .i64 bi, .int .i64 ra, .int .i64 bl, .int .i64 sh] 25)
  have hsz0 : (w.alloc (.cells #[.int .i64 k, .int .i64 ch, .int .i64 bi, .int .i64 ra, .int .i64 bl, .int .i64 sh] 25)).heap.size = w.heap.size + 1 := by simp
  have hRI := hid (fun W => riright_any k ch bi ra bl sh W)
  rw [hrr] at hRI
  have hC := hid (fun W (hb : Below w.heap.size w W) => rcheck_any A0 c0 l W (hl.below hb) hlc hlen hs)
  have hP1 := hid (fun W => riput_any k ch bi ra bl sh W hkk)
  have hP2 := hid (fun W (hb : Below w.heap.size w W) => rtagput_any A0 c0 l W (hl.below hb) hS)
  have hiv : i.v = .agg #[.int .i64 k, .int .i64 ch, .int .i64 bi, .int .i64 ra, .int .i64 bl, .int .i64 sh] := by rw [hi]; rfl
  rw [hiv]
  have hibl : i.bl = (bl : Int) := by rw [hi]
  have HNX := hid (fun (h : HeadV) (index : Int) (short : Bool) W => rfnext_any i h index short W hbi)
  rw [hiv] at HNX
  have HRL := hid hR.symm
  have hpl0 : (startF i l).pl = [] := rfl
  have hcn0 : (startF i l).cnt = 0 := rfl
  have hsh0 : (startF i l).short = false := rfl
  have HS0 := hid (⟨hpl0, hcn0, hsh0⟩ : (startF i l).pl = [] ∧ (startF i l).cnt = 0 ∧ (startF i l).short = false)
  have hXl : (sealed (infoHead k ch bi sh ra bl)).length ≤ 19 := by rw [← hib, infoB_len]; omega
  have hYl : (sealed (tagsB l)).length ≤ 70004 := by have := tagsB_len hS; unfold sealed; rw [List.length_append, bytesLE_length]; omega
  generalize sealed (infoHead k ch bi sh ra bl) = X at *
  generalize sealed (tagsB l) = Y at *
  generalize checkT l = zy at *
  obtain ⟨z, y⟩ := zy
  simp only at hz hC
  subst hz
  have HO := hid hout
  have HIB := hid hibl
  generalize startF i l = s0 at *
  clear hR hl hs hrr hkk hib hiv hout hi hpl0 hcn0 hsh0 hr hS hibl
  go_enter Tryd.func12, Tryd.ntmps12
  go_wp2_with fail
  generalize hw0 : w.alloc (.cells #[.int .i64 k, .int .i64 ch, .int .i64 bi, .int .i64 ra, .int .i64 bl, .int .i64 sh] 25) = w0 at *
  clear hw0
  have hgi0 := hrow
  clear hrow
  obtain ⟨gi, hgi⟩ : ∃ gi, gi = w.heap.size := ⟨_, rfl⟩
  refine (hRI.out w0).mono ?_
  rintro e w1 ⟨rfl, hb1⟩
  have hbw1 := hb.trans (hb1.mono hb.size)
  have hgi1 := (hb1.block _ (Array.getElem?_eq_some_iff.1 hgi0).1).trans hgi0
  clear hb1 hb hgi0
  go_wp2_with fail
  refine (hC.out w1 hbw1).mono ?_
  rintro e w2 ⟨rfl, hb2⟩
  have hbw2 := hbw1.trans (hb2.mono hbw1.size)
  have hgi2 := (hb2.block _ (Array.getElem?_eq_some_iff.1 hgi1).1).trans hgi1
  clear hb2 hbw1 hgi1
  have q0 : w2.cell? ⟨w.heap.size, 0, none⟩ = some (.int .i64 (k : Int)) := by rw [cell_of_row _ _ _ _ _ _ hgi2]; rfl
  have q1 : w2.cell? ⟨w.heap.size, 1, none⟩ = some (.int .i64 (ch : Int)) := by rw [cell_of_row _ _ _ _ _ _ hgi2]; rfl
  have q2 : w2.cell? ⟨w.heap.size, 2, none⟩ = some (.int .i64 (bi : Int)) := by rw [cell_of_row _ _ _ _ _ _ hgi2]; rfl
  have q3 : w2.cell? ⟨w.heap.size, 3, none⟩ = some (.int .i64 (ra : Int)) := by rw [cell_of_row _ _ _ _ _ _ hgi2]; rfl
  have q4 : w2.cell? ⟨w.heap.size, 4, none⟩ = some (.int .i64 (bl : Int)) := by rw [cell_of_row _ _ _ _ _ _ hgi2]; rfl
  have q5 : w2.cell? ⟨w.heap.size, 5, none⟩ = some (.int .i64 (sh : Int)) := by rw [cell_of_row _ _ _ _ _ _ hgi2]; rfl
  go_wp2_with fail
  refine (hP1.out w2).mono ?_
  rintro e w3 ⟨v, rfl, hv⟩
  obtain ⟨A3, c3, rfl, hs3, hA3, ho3, hb3⟩ := hv.parts
  have hbw3 := hbw2.trans (hb3.mono hbw2.size)
  have hgi3 := (hb3.block _ (Array.getElem?_eq_some_iff.1 hgi2).1).trans hgi2
  have hB2 : w.heap.size + 1 ≤ w2.heap.size := (Array.getElem?_eq_some_iff.1 hgi2).1
  have hsz23 := hb3.size
  clear hv hs3 hA3 hb3 q0 q1 q2 q3 q4 q5
  go_wp2_with fail
  refine (hP2.out w3 hbw3).mono ?_
  rintro e w4 ⟨v, rfl, hv⟩
  obtain ⟨A4, c4, rfl, hs4, hA4, _, hb4⟩ := hv.parts
  have hbw4 := hbw3.trans (hb4.mono hbw3.size)
  have hgi4 := (hb4.block _ (Array.getElem?_eq_some_iff.1 hgi3).1).trans hgi3
  have ho4 := own_keepF ho3 hb4
  have hNL := hid (show X.length + Y.length = s0.out.length by rw [HO.out, List.length_append])
  have hXL := hid (show X.map byteV ++ Y.map byteV = s0.out.map byteV by rw [HO.out, List.map_append])
  have hb24 : w2.heap.size ≤ w4.heap.size := Nat.le_trans hsz23 hb4.size
  clear hv ho3 hb4 hbw3 hgi3 hA4
  have hbi0 := HIB.out
  go_wp2_with (at_builtin; refine wpList_app rfl (.tmp 33) (.tmp 35) _ rfl elB rfl ho4 A4 Y.length c4 rfl _ hs4 (by simp) (byte_one _) s0.out.length hNL.out _ hXL.out (by have := hNL.out; unfold maxLen; omega) (by have := hNL.out; omega) hb24 ?_; intro A5 c5 w5 ho5 hgr5 hat5 hbel5)
  have hbw5 := hbw4.trans (hbel5.mono (by omega))
  have hgi5 := (hbel5.block w.heap.size (by omega)).trans hgi4
  have hb6 : Below w5.heap.size w5 (w5.alloc (.cells #[.int .i64 0, .int .u32 (sum : Int), .slice none 0 0] 43)) := (Below.refl _ w5).alloc (Nat.le_refl _) _
  have hgt6 := heap_alloc_new w5 (.cells #[.int .i64 0, .int .u32 (sum : Int), .slice none 0 0] 43)
  have hgi6 := (hb6.block w.heap.size (Array.getElem?_eq_some_iff.1 hgi5).1).trans hgi5
  have hbw6 := hbw5.trans (hb6.mono hbw5.size)
  have ho6 := Joins.ownsRow_le (own_keepF ho5 hb6) hB2
  have hgtw : w.heap.size < w5.heap.size := (Array.getElem?_eq_some_iff.1 hgi5).1
  generalize w5.alloc (.cells #[.int .i64 0, .int .u32 (sum : Int), .slice none 0 0] 43) = w6 at *
  generalize w5.heap.size = gt at *
  clear hb6 hbel5 hgr5 hat5 ho5 hs4 ho4 hbw5 hgi5 hgi4 hbw4 hbw2 hgi2 hb24 hsz23 hB2 hsz0 hP1 hP2 hC hRI
  go_loopw [12, 14, 15, 16, 17, 18, 19, 20] (fun x st q _ _ _ _ _ wr => ∃ (n : Nat) (s : FileS) (A : Option Addr) (c : Nat) (Ap : Option Addr) (cp : Nat), n ≤ bs.length ∧ q = .int .i64 n ∧ x = .slice A s.out.length c ∧ st = .bool s.short ∧ wr.heap[gt]? = some (.cells #[.int .i64 s.cnt, .int .u32 (sum : Int), .slice Ap s.pl.length cp] 43 (0, 0)) ∧ wr.heap[w.heap.size]? = some (.cells #[.int .i64 k, .int .i64 ch, .int .i64 bi, .int .i64 ra, .int .i64 bl, .int .i64 sh] 25 (0, 0)) ∧ wr.ownsRow (w.heap.size + 1) 5 1 (.slice A s.out.length c) s.out.length (s.out.map byteV) ∧ wr.ownsRow (w.heap.size + 1) 3 1 (.slice Ap s.pl.length cp) s.pl.length (s.pl.map intV) ∧ s.ok n ∧ s.rise ∧ Below w.heap.size w wr ∧ Hid (addAll i ((bs.drop n).map BlkV.l) s = R)) (fun _ _ q _ _ _ _ _ _ => bs.length - (intOf q).toNat)
  case atStart =>
    obtain ⟨q1, q2, q3⟩ := HS0.out
    exact ⟨0, s0, A5, c5, none, 0, by omega, rfl, rfl, by rw [q3], by rw [q1, q2]; exact hgt6, hgi6, ho6, by rw [q1]; exact own_nil _ _ _ _, hso, hsr, hbw6, HRL⟩
  case round =>
    clear hgt6 hgi6 ho6 hbw6 HRL hso hsr HS0 HO hNL hXL
    obtain ⟨n, s, A, c, Ap, cp, hn, rfl, rfl, rfl, hgt, hgi', ho, hp, hso, hsr, hbw, hE⟩ := hrel
    have hszw : w.heap.size < wr.heap.size := (Array.getElem?_eq_some_iff.1 hgi').1
    have hgtl : gt < wr.heap.size := (Array.getElem?_eq_some_iff.1 hgt).1
    by_cases hlt : n < bs.length
    · have hd : decide (n < bs.length) = true := by simpa using hlt
      have hdi : (n : Int) < (bs.length : Int) := by omega
      obtain ⟨a, rfl, ca⟩ := (hk.below hbw).at hlt
      obtain ⟨hx, hxc, hxm⟩ := (hk.below hbw).one hlt
      obtain ⟨a', ha', ca0⟩ := hk.at hlt
      injection ha' with ha'
      subst ha'
      have hx0 := (hk.one hlt).1
      have hx300 := hb300 bs[n] (List.getElem_mem hlt)
      have hEn := hE.out
      rw [List.drop_eq_getElem_cons hlt, List.map_cons] at hEn
      generalize bs[n] = x at *
      obtain ⟨xA, xc, xl⟩ := x
      simp only at ca ca0 hx hxc hxm hx0 hx300 hEn
      unfold addAll at hEn
      have hO := hropen_any xA xc xl wr hx hxc hxm (by omega)
      obtain ⟨⟨E, h, P, S⟩, hop⟩ : ∃ r, openH xl = r := ⟨_, rfl⟩
      rw [hop] at hO
      have hpn := hso.pl
      by_cases hz : (addE i s xl).1 = 0
      · rw [if_neg (by rw [hz]; simp)] at hEn
        have hso2 := hso.next hx300 hz
        have hsr2 := addE_rise hsr hso (by omega) hz
        obtain ⟨hz1, hbl, hnx, hR⟩ := addE_ok hz
        have hfine := openH_fine hz1
        have hlens := openH_len hz1
        obtain ⟨s', hs'⟩ : ∃ s', s' = (addE i s xl).2 := ⟨_, rfl⟩
        rw [← hs'] at hR hEn hso2 hsr2
        rw [hop] at hz1 hbl hnx hR hfine hlens
        simp only at hz1 hbl hnx hR hfine hlens
        subst hz1
        have hs0 := hfine.2.2
        have hcn := hso.cnt
        have hon := hso.out
        rw [hpn] at hnx
        have HN := hid (fun W => HNX.out h (n : Int) s.short W)
        rw [hnx] at HN
        have HR := hid hR
        have HEN := hid hEn
        have hlb : 36 ≤ xl.length := by omega
        have hxlt := hid (fun b hb => Sees.lt hx0 (by intro hh; have := congrArg List.length hh; simp at this; rw [this] at hlb; simp at hlb) (a := b) hb)
        have HPN := hid hpn
        obtain ⟨hk', hidx, hlen', hstp, hbnd, hlst, hlnk, hsiz⟩ := h
        unfold OpenPost HeadV.cells at hO
        unfold HeadV.v at HN
        (try simp only at hO)
        (try simp only at HN)
        (try simp only at HR)
        (try simp only at hbl hs0 hlens)
        have HOP := hid hO
        have HX := hid hx
        clear hO hnx hR hEn hz hop hfine hs' hE hpn hx hso hsr
        go_wp2_with fail
        refine HOP.out.mono ?_
        rintro e y1 ⟨A1, c1, rfl, _, _, _, hb1⟩
        have hgt1 := (hb1.block gt hgtl).trans hgt
        have hgi1 := (hb1.block w.heap.size hszw).trans hgi'
        have hbw1 := hbw.trans (hb1.mono hbw.size)
        have hba := (Below.refl y1.heap.size y1).alloc (Nat.le_refl _) (.cells #[.int .i64 hk', .int .i64 hidx, .int .i64 hlen', .int .i64 hstp, .int .i64 hbnd, .bool hlst, .int .u32 hlnk, .int .i64 hsiz] 52)
        have hgh2 := heap_alloc_new y1 (.cells #[.int .i64 hk', .int .i64 hidx, .int .i64 hlen', .int .i64 hstp, .int .i64 hbnd, .bool hlst, .int .u32 hlnk, .int .i64 hsiz] 52)
        have hgt2 := (hba.block gt (Array.getElem?_eq_some_iff.1 hgt1).1).trans hgt1
        have hgi2 := (hba.block w.heap.size (Array.getElem?_eq_some_iff.1 hgi1).1).trans hgi1
        have hbw2 := hbw1.trans (hba.mono hbw1.size)
        have ho2 := own_keepF (own_keepF ho hb1) hba
        have hp2 := own_keepF (own_keepF hp hb1) hba
        have hgtne : gt ≠ y1.heap.size := by have := (Array.getElem?_eq_some_iff.1 hgt1).1; omega
        clear hgt1 hgi1 hbw1 hba hb1 HOP hgt hgi' ho hp
        go_wp2_with fail
        generalize y1.alloc (.cells #[.int .i64 hk', .int .i64 hidx, .int .i64 hlen', .int .i64 hstp, .int .i64 hbnd, .bool hlst, .int .u32 hlnk, .int .i64 hsiz] 52) = y2 at *
        generalize y1.heap.size = gh at *
        have ca2 := keep1 hbw2 ca0
        have e7 : y2.cell? ⟨gh, 7, none⟩ = some (.int .i64 hsiz) := by rw [cell_of_row _ _ _ _ _ _ hgh2]; rfl
        have d3 : decide (36 + hsiz < (xl.length : Int)) = false := decide_eq_false (by omega)
        clear ca
        go_quiet (fail)
        have hdr : Below y2.heap.size y2 (y2.drewN nq) := ⟨rfl, rfl, rfl, Nat.le_refl _, fun _ _ => rfl⟩
        replace ho2 := own_keepF ho2 hdr
        replace hp2 := own_keepF hp2 hdr
        replace hgt2 := (hdr.block gt (Array.getElem?_eq_some_iff.1 hgt2).1).trans hgt2
        replace hgi2 := (hdr.block w.heap.size (Array.getElem?_eq_some_iff.1 hgi2).1).trans hgi2
        replace hgh2 := (hdr.block gh (Array.getElem?_eq_some_iff.1 hgh2).1).trans hgh2
        replace hbw2 := hbw2.trans (hdr.mono hbw2.size)
        clear hdr e7 ca2
        generalize y2.drewN nq = y3 at *
        have q0 : y3.cell? ⟨w.heap.size, 0, none⟩ = some (.int .i64 (k : Int)) := by rw [cell_of_row _ _ _ _ _ _ hgi2]; rfl
        have q1 : y3.cell? ⟨w.heap.size, 1, none⟩ = some (.int .i64 (ch : Int)) := by rw [cell_of_row _ _ _ _ _ _ hgi2]; rfl
        have q2 : y3.cell? ⟨w.heap.size, 2, none⟩ = some (.int .i64 (bi : Int)) := by rw [cell_of_row _ _ _ _ _ _ hgi2]; rfl
        have q3 : y3.cell? ⟨w.heap.size, 3, none⟩ = some (.int .i64 (ra : Int)) := by rw [cell_of_row _ _ _ _ _ _ hgi2]; rfl
        have q4 : y3.cell? ⟨w.heap.size, 4, none⟩ = some (.int .i64 (bl : Int)) := by rw [cell_of_row _ _ _ _ _ _ hgi2]; rfl
        have q5 : y3.cell? ⟨w.heap.size, 5, none⟩ = some (.int .i64 (sh : Int)) := by rw [cell_of_row _ _ _ _ _ _ hgi2]; rfl
        have e0 : y3.cell? ⟨gh, 0, none⟩ = some (.int .i64 hk') := by rw [cell_of_row _ _ _ _ _ _ hgh2]; rfl
        have e1 : y3.cell? ⟨gh, 1, none⟩ = some (.int .i64 hidx) := by rw [cell_of_row _ _ _ _ _ _ hgh2]; rfl
        have e2 : y3.cell? ⟨gh, 2, none⟩ = some (.int .i64 hlen') := by rw [cell_of_row _ _ _ _ _ _ hgh2]; rfl
        have e3 : y3.cell? ⟨gh, 3, none⟩ = some (.int .i64 hstp) := by rw [cell_of_row _ _ _ _ _ _ hgh2]; rfl
        have e4 : y3.cell? ⟨gh, 4, none⟩ = some (.int .i64 hbnd) := by rw [cell_of_row _ _ _ _ _ _ hgh2]; rfl
        have e5 : y3.cell? ⟨gh, 5, none⟩ = some (.bool hlst) := by rw [cell_of_row _ _ _ _ _ _ hgh2]; rfl
        have e6 : y3.cell? ⟨gh, 6, none⟩ = some (.int .u32 hlnk) := by rw [cell_of_row _ _ _ _ _ _ hgh2]; rfl
        have e7 : y3.cell? ⟨gh, 7, none⟩ = some (.int .i64 hsiz) := by rw [cell_of_row _ _ _ _ _ _ hgh2]; rfl
        go_wp2_with fail
        refine (HN.out y3).mono ?_
        rintro e y4 ⟨rfl, hb4⟩
        have hba := (Below.refl y4.heap.size y4).alloc (Nat.le_refl _) (.cells #[.int .i64 (s.out.length : Int)] 3)
        have hb5 := hb4.trans (hba.mono hb4.size)
        have ho5 := own_keepF ho2 hb5
        have hp5 := own_keepF hp2 hb5
        have hgt5 := (hb5.block gt (Array.getElem?_eq_some_iff.1 hgt2).1).trans hgt2
        have hgi5 := (hb5.block w.heap.size (Array.getElem?_eq_some_iff.1 hgi2).1).trans hgi2
        have hgh5 := (hb5.block gh (Array.getElem?_eq_some_iff.1 hgh2).1).trans hgh2
        have hbw5 := hbw2.trans (hb5.mono hbw2.size)
        have hB5 : w.heap.size + 1 ≤ (y4.alloc (.cells #[.int .i64 (s.out.length : Int)] 3)).heap.size := (Array.getElem?_eq_some_iff.1 hgi5).1
        have c2t : y4.cell? ⟨gt, 2, none⟩ = some (.slice Ap s.pl.length cp) := by rw [cell_of_row _ _ _ _ _ _ ((hb4.block gt (Array.getElem?_eq_some_iff.1 hgt2).1).trans hgt2)]; rfl
        have c2u : (y4.alloc (.cells #[.int .i64 (s.out.length : Int)] 3)).cell? ⟨gt, 2, none⟩ = some (.slice Ap s.pl.length cp) := by rw [cell_of_row _ _ _ _ _ _ hgt5]; rfl
        have HMM := hid (show s.pl.map intV ++ [intV (s.out.length : Int)] = (s.pl ++ [(s.out.length : Int)]).map intV by simp)
        have hw9 : wrap64 (s.cnt + hlen') = s.cnt + hlen' := by unfold wrap64; omega
        have hnp : s.pl.length ≤ 100 := by have := HPN.out; omega
        obtain ⟨M, hM⟩ : ∃ M, M = s.out ++ xl := ⟨_, rfl⟩
        have HNL := hid (show s.out.length + xl.length = M.length by rw [hM, List.length_append])
        have HXL := hid (show s.out.map byteV ++ xl.map byteV = M.map byteV by rw [hM, List.map_append])
        rw [← hM] at HR
        have hgtw' : gt ≠ w.heap.size := by omega
        clear hM q0 q1 q2 q3 q4 q5 e0 e1 e2 e3 e4 e5 e6 e7 hgt2 hgi2 hgh2 ho2 hp2 hb4 hba HN
        go_wp2_with (at_builtin; first
          | (refine wpList_app rfl (.tmp 76) (.tmp 79) _ rfl elI rfl hp5 (some ⟨y4.heap.size, 0, none⟩) 1 1 rfl [intV (s.out.length : Int)] (Sees.of_alloc _ _ _ rfl) (by simp) (by simp [intV, Value.oneCell']) (s.pl.length + 1) rfl _ HMM.out (by unfold maxLen; omega) (by omega) hB5 ?_
             intro A6 c6 y6 hp6 hgr6 hat6 hbel6
             have hgt6 := (hgr6.block gt (Array.getElem?_eq_some_iff.1 hgt5).1 (fun hh => own_other hp5 hgt5 (by decide) hh.symm)).trans hgt5
             have hgi6 := (hgr6.block w.heap.size (Array.getElem?_eq_some_iff.1 hgi5).1 (fun hh => own_other hp5 hgi5 (by decide) hh.symm)).trans hgi5
             have hgh6 := (hgr6.block gh (Array.getElem?_eq_some_iff.1 hgh5).1 (fun hh => own_other hp5 hgh5 (by decide) hh.symm)).trans hgh5
             have ho6 := own_but ho5 (But.of_grown hgr6 hbel6) (fun k hk hh => own_apart ho5 hp5 (by decide) k hk hh)
             have hbw6 := hbw5.trans (hbel6.mono (by omega))
             obtain ⟨z1, z2, z3, z4, z5, z6, z7, z8, z9, z10⟩ := tail_stores y6 gt gh w.heap.size s.cnt (sum : Int) hlen' (bl : Int) Ap A6 s.pl.length cp c6 _ _ hgt6 hgh6 rfl hgi6 rfl hgtne hgtw'
             have hoW := own_but ho6 z10 (fun k hk hh => own_other ho6 hgt6 (by decide) (by have h2 : k = gt := hh; rw [← h2]; exact hk))
             have hpW := own_but hp6 z10 (fun k hk hh => own_other hp6 hgt6 (by decide) (by have h2 : k = gt := hh; rw [← h2]; exact hk))
             have hbW := But.below hbw6 z10 (fun bb hh => by have h2 : bb = gt := hh; omega) hbw6.size
             have caW := keep1 hbW ca0
             have hxW := Sees.below hx0 hbW
             have hBW := Nat.le_trans hB5 (Nat.le_trans hbel6.size z10.size)
             clear hp5 hgt5 hgi5 hgh5 ho5 hgr6 hat6 hbel6 hgt6 hgi6 hgh6 ho6 hp6 hbw6 z10 hbw5 c2t c2u)
          | (refine wpList_app rfl (.tmp 93) (.tmp 97) _ rfl elB rfl hoW xA xl.length xc rfl _ hxW (by simp) (byte_one _) M.length HNL.out _ HXL.out (by have := HNL.out; unfold maxLen; omega) (by have := HNL.out; omega) hBW ?_; intro A7 c7 y7 ho7 hgr7 hat7 hbel7))
        have hgt7 := (hgr7.block gt (Array.getElem?_eq_some_iff.1 z8).1 (fun hh => own_other hoW z8 (by decide) hh.symm)).trans z8
        have hgi7 := (hgr7.block w.heap.size (Array.getElem?_eq_some_iff.1 z9).1 (fun hh => own_other hoW z9 (by decide) hh.symm)).trans z9
        have hp7 := own_but hpW (But.of_grown hgr7 hbel7) (fun k hk hh => own_apart hpW hoW (by decide) k hk hh)
        have hbw7 := hbW.trans (hbel7.mono (by omega))
        have e1 := HR.out
        subst e1
        refine ⟨⟨n + 1, _, A7, c7, A6, c6, hlt, by go_num, rfl, ?_, ?_, hgi7, ho7, ?_, hso2, hsr2, hbw7, HEN⟩, by simp [intOf]; omega⟩
        · rw [HIB.out]
        · simp only [List.length_append, List.length_singleton]; exact hgt7
        · simp only [List.length_append, List.length_singleton]; exact hp7
      · rw [if_pos hz] at hEn
        obtain ⟨RE, hRE⟩ : ∃ RE, RE = (addE i s xl).1 := ⟨_, rfl⟩
        have HF := hid (show endF R sum = (RE, []) by rw [← hEn, hRE]; unfold endF; rw [if_pos hz])
        rw [← hRE] at hz
        have hfine : E = 0 → 36 + h.siz ≤ xl.length ∧ 0 ≤ h.siz := fun h0 => by
          have h1 := openH_fine (b := xl) (by rw [hop]; exact h0)
          rw [hop] at h1
          exact ⟨h1.1, h1.2.2⟩
        unfold addE at hRE
        rw [hop] at hRE
        simp only at hRE
        rw [hpn] at hRE
        have dRE : (RE != 0) = true := by simpa using hz
        have hO2 := hid hO
        clear hO hEn hE hop hso hsr hx hx0 hgt ho hp
        by_cases hE0 : E = 0
        case neg =>
          rw [if_pos hE0] at hRE
          simp only at hRE
          subst hRE
          obtain ⟨hk', hidx, hlen', hstp, hbnd, hlst, hlnk, hsiz⟩ := h
          have hO := hO2.out
          unfold OpenPost HeadV.cells at hO
          (try simp only at hO)
          have HOP := hid hO
          clear hO hO2 hfine hE0 hz hpn
          go_wp2_with fail
          refine HOP.out.mono ?_
          rintro e y1 ⟨A1, c1, rfl, _, _, _, hb1⟩
          have hba := (Below.refl y1.heap.size y1).alloc (Nat.le_refl _) (.cells #[.int .i64 hk', .int .i64 hidx, .int .i64 hlen', .int .i64 hstp, .int .i64 hbnd, .bool hlst, .int .u32 hlnk, .int .i64 hsiz] 52)
          have hbw2 := hbw.trans ((hb1.trans (hba.mono hb1.size)).mono hbw.size)
          go_wp2_with fail
          refine bodyPost_ret (results_tmp2 rfl _ _ _) rfl ?_
          rw [HF.out]
          exact bpost_bad RE hbw2
        rw [if_neg (by rw [hE0]; simp)] at hRE
        subst hE0
        obtain ⟨hf1, hs0⟩ := hfine rfl
        have HN := hid (fun W => HNX.out h (n : Int) s.short W)
        obtain ⟨nE, hnE⟩ : ∃ nE, nE = nextE i h (n : Int) s.short := ⟨_, rfl⟩
        rw [← hnE] at HN hRE
        have HR := hid hRE
        clear hfine hnE hRE hpn
        obtain ⟨hk', hidx, hlen', hstp, hbnd, hlst, hlnk, hsiz⟩ := h
        have hO := hO2.out
        unfold OpenPost HeadV.cells at hO
        unfold HeadV.v at HN
        (try simp only at hO)
        (try simp only at HN)
        (try simp only at HR)
        (try simp only at hf1 hs0)
        have HOP := hid hO
        clear hO hO2
        go_wp2_with fail
        refine HOP.out.mono ?_
        rintro e y1 ⟨A1, c1, rfl, _, _, _, hb1⟩
        have hgi1 := (hb1.block w.heap.size hszw).trans hgi'
        have hbw1 := hbw.trans (hb1.mono hbw.size)
        have hba := (Below.refl y1.heap.size y1).alloc (Nat.le_refl _) (.cells #[.int .i64 hk', .int .i64 hidx, .int .i64 hlen', .int .i64 hstp, .int .i64 hbnd, .bool hlst, .int .u32 hlnk, .int .i64 hsiz] 52)
        have hgh2 := heap_alloc_new y1 (.cells #[.int .i64 hk', .int .i64 hidx, .int .i64 hlen', .int .i64 hstp, .int .i64 hbnd, .bool hlst, .int .u32 hlnk, .int .i64 hsiz] 52)
        have hgi2 := (hba.block w.heap.size (Array.getElem?_eq_some_iff.1 hgi1).1).trans hgi1
        have hbw2 := hbw1.trans (hba.mono hbw1.size)
        clear hgi1 hbw1 hba hb1 HOP hgi'
        go_wp2_with fail
        generalize y1.alloc (.cells #[.int .i64 hk', .int .i64 hidx, .int .i64 hlen', .int .i64 hstp, .int .i64 hbnd, .bool hlst, .int .u32 hlnk, .int .i64 hsiz] 52) = y2 at *
        generalize y1.heap.size = gh at *
        have ca2 := keep1 hbw2 ca0
        have e7 : y2.cell? ⟨gh, 7, none⟩ = some (.int .i64 hsiz) := by rw [cell_of_row _ _ _ _ _ _ hgh2]; rfl
        clear ca
        by_cases hlong : (36 + hsiz : Int) < xl.length
        · have d3 : decide (36 + hsiz < (xl.length : Int)) = true := decide_eq_true hlong
          have e1 := HR.out
          rw [if_pos hlong] at e1
          simp only at e1
          subst e1
          clear hlong HR dRE hz
          go_quiet (fail)
          go_wp2_with fail
          refine bodyPost_ret (results_tmp2 rfl _ _ _) rfl ?_
          rw [HF.out]
          exact bpost_bad 62 ⟨hbw2.os, hbw2.tape, hbw2.output, hbw2.size, hbw2.block⟩
        · have d3 : decide (36 + hsiz < (xl.length : Int)) = false := decide_eq_false hlong
          have hRn : RE = nE := by
            have h1 := HR.out
            rw [if_neg hlong] at h1
            by_cases hn0 : nE = 0
            · rw [if_neg (by rw [hn0]; simp)] at h1; exact absurd h1 hz
            · rw [if_pos hn0] at h1; exact h1
          subst hRn
          clear hlong HR hz
          go_quiet (fail)
          have hdr : Below y2.heap.size y2 (y2.drewN nq) := ⟨rfl, rfl, rfl, Nat.le_refl _, fun _ _ => rfl⟩
          replace hgi2 := (hdr.block w.heap.size (Array.getElem?_eq_some_iff.1 hgi2).1).trans hgi2
          replace hgh2 := (hdr.block gh (Array.getElem?_eq_some_iff.1 hgh2).1).trans hgh2
          replace hbw2 := hbw2.trans (hdr.mono hbw2.size)
          clear hdr e7 ca2
          generalize y2.drewN nq = y3 at *
          have q0 : y3.cell? ⟨w.heap.size, 0, none⟩ = some (.int .i64 (k : Int)) := by rw [cell_of_row _ _ _ _ _ _ hgi2]; rfl
          have q1 : y3.cell? ⟨w.heap.size, 1, none⟩ = some (.int .i64 (ch : Int)) := by rw [cell_of_row _ _ _ _ _ _ hgi2]; rfl
          have q2 : y3.cell? ⟨w.heap.size, 2, none⟩ = some (.int .i64 (bi : Int)) := by rw [cell_of_row _ _ _ _ _ _ hgi2]; rfl
          have q3 : y3.cell? ⟨w.heap.size, 3, none⟩ = some (.int .i64 (ra : Int)) := by rw [cell_of_row _ _ _ _ _ _ hgi2]; rfl
          have q4 : y3.cell? ⟨w.heap.size, 4, none⟩ = some (.int .i64 (bl : Int)) := by rw [cell_of_row _ _ _ _ _ _ hgi2]; rfl
          have q5 : y3.cell? ⟨w.heap.size, 5, none⟩ = some (.int .i64 (sh : Int)) := by rw [cell_of_row _ _ _ _ _ _ hgi2]; rfl
          have e0 : y3.cell? ⟨gh, 0, none⟩ = some (.int .i64 hk') := by rw [cell_of_row _ _ _ _ _ _ hgh2]; rfl
          have e1 : y3.cell? ⟨gh, 1, none⟩ = some (.int .i64 hidx) := by rw [cell_of_row _ _ _ _ _ _ hgh2]; rfl
          have e2 : y3.cell? ⟨gh, 2, none⟩ = some (.int .i64 hlen') := by rw [cell_of_row _ _ _ _ _ _ hgh2]; rfl
          have e3 : y3.cell? ⟨gh, 3, none⟩ = some (.int .i64 hstp) := by rw [cell_of_row _ _ _ _ _ _ hgh2]; rfl
          have e4 : y3.cell? ⟨gh, 4, none⟩ = some (.int .i64 hbnd) := by rw [cell_of_row _ _ _ _ _ _ hgh2]; rfl
          have e5 : y3.cell? ⟨gh, 5, none⟩ = some (.bool hlst) := by rw [cell_of_row _ _ _ _ _ _ hgh2]; rfl
          have e6 : y3.cell? ⟨gh, 6, none⟩ = some (.int .u32 hlnk) := by rw [cell_of_row _ _ _ _ _ _ hgh2]; rfl
          have e7 : y3.cell? ⟨gh, 7, none⟩ = some (.int .i64 hsiz) := by rw [cell_of_row _ _ _ _ _ _ hgh2]; rfl
          go_wp2_with fail
          refine (HN.out y3).mono ?_
          rintro e y4 ⟨rfl, hb4⟩
          have hbw4 := hbw2.trans (hb4.mono hbw2.size)
          clear q0 q1 q2 q3 q4 q5 e0 e1 e2 e3 e4 e5 e6 e7 hb4 hgi2 hgh2
          go_wp2_with fail
          refine bodyPost_ret (results_tmp2 rfl _ _ _) rfl ?_
          rw [HF.out]
          exact bpost_bad RE hbw4
    · obtain rfl : n = bs.length := by omega
      have hd : decide (bs.length < bs.length) = false := by simp
      have hEn := hE.out
      rw [List.drop_length, List.map_nil] at hEn
      have hrt := rise_right hsr hso hb12
      have hrg := right_range hrt
      have hcn := hso.cnt
      have hon := hso.out
      have hpn := hso.pl
      obtain ⟨C, hC⟩ := Int.eq_ofNat_of_zero_le hcn.1
      have HF := hid (show endF R sum = (0, s.out ++ tailB s sum) by rw [← hEn]; rfl)
      have hT2 : tailB s sum = sealed (tailHead C sum s.pl) := by unfold tailB; rw [hC]; rfl
      rw [hC, Int.toNat_natCast] at hrt hrg
      have hpI : SeesI wr Ap s.pl := own_sees hp
      have hput := hid (rtput_any C sum Ap cp s.pl wr hpI (by omega) (by omega) hsum hrg.2.2.2)
      rw [← hT2] at hput
      have hEl : (tailB s sum).length ≤ 1000 := by rw [hT2]; unfold sealed; rw [List.length_append, tailHead_len, bytesLE_length]; omega
      generalize tailB s sum = T at *
      obtain ⟨M, hMd⟩ : ∃ M, M = s.out ++ T := ⟨_, rfl⟩
      have HNL := hid (show s.out.length + T.length = M.length by rw [hMd, List.length_append])
      have HXL := hid (show s.out.map byteV ++ T.map byteV = M.map byteV by rw [hMd, List.map_append])
      rw [← hMd] at HF
      have t0 : wr.cell? ⟨gt, 0, none⟩ = some (.int .i64 (C : Int)) := by rw [cell_of_row _ _ _ _ _ _ hgt, ← hC]; rfl
      have t1 : wr.cell? ⟨gt, 1, none⟩ = some (.int .u32 (sum : Int)) := by rw [cell_of_row _ _ _ _ _ _ hgt]; rfl
      have t2 : wr.cell? ⟨gt, 2, none⟩ = some (.slice Ap s.pl.length cp) := by rw [cell_of_row _ _ _ _ _ _ hgt]; rfl
      clear hMd hT2 hrt hrg hEn hE hC hsr hcn hk hp hpI hso hpn hgt hgi'
      go_wp2_with fail
      refine hput.out.mono ?_
      rintro e y1 ⟨v, rfl, hv⟩
      obtain ⟨A2, c2, rfl, hs2, hA2, ho2, hb2⟩ := hv.parts
      have hbw2 := hbw.trans (hb2.mono hbw.size)
      have hown2 := own_keepF ho hb2
      have hbs2 : w.heap.size + 1 ≤ y1.heap.size := Nat.le_trans hszw hb2.size
      clear hb2 ho hv ho2 hA2 t0 t1 t2 hbw hput
      go_wp2_with (at_builtin; refine wpList_app rfl (.tmp 99) (.tmp 101) _ rfl elB rfl hown2 A2 T.length c2 rfl _ hs2 (by simp) (byte_one _) M.length HNL.out _ HXL.out (by have := HNL.out; unfold maxLen; omega) (by have := HNL.out; omega) hbs2 ?_; intro A3 c3 w3 hown3 hgr hat hbel)
      refine bodyPost_ret (results_tmp2 rfl _ _ _) rfl ?_
      rw [HF.out]
      exact ⟨_, rfl, A3, c3, rfl, Joins.ownsRow_le hown3 (by omega), hbw2.trans (hbel.mono (by omega))⟩
theorem rbuild_any (i : InfoV) (A0 : Option Addr) (c0 : Nat) (l : List TagV) (B0 : Option Addr) (d0 : Nat) (bs : List BlkV) (sum : Nat) (w : World) (hl : SeesT w A0 l) (hlc : l.length ≤ c0) (hlen : l.length ≤ maxLen) (hs : Brief l)
    (hk : SeesK w B0 bs) (hb12 : bs.length ≤ 12) (hb300 : ∀ x ∈ bs, x.l.length ≤ 300) (hsum : sum < 4294967296) :
    Calls Tryd.prog 12 #[i.v, .slice A0 l.length c0, .slice B0 bs.length d0, .int .u32 (sum : Int)] w (BPost w (buildF i l (bs.map BlkV.l) sum)) := by
  cases hr : i.right with
  | false =>
    rw [show buildF i l (bs.map BlkV.l) sum = (32, []) by unfold buildF; rw [if_pos hr]]
    exact rbuild_info i _ _ _ w hr
  | true =>
    by_cases hz : (checkT l).2 = 0
    · rw [show buildF i l (bs.map BlkV.l) sum = endF (addAll i (bs.map BlkV.l) (startF i l)) sum by unfold buildF; rw [if_neg (by rw [hr]; simp), if_neg (by rw [hz]; simp)]]
      exact rbuild_all i A0 c0 l B0 d0 bs sum w hr hl hlc hlen hs hz hk hb12 hb300 hsum
    · rw [show buildF i l (bs.map BlkV.l) sum = ((checkT l).2, []) by unfold buildF; rw [if_neg (by rw [hr]; simp), if_pos hz]]
      exact rbuild_tags i A0 c0 l _ _ w hr hl hlc hlen hs hz
end Go.Proofs.YtkmhmehofipehaaDoor
