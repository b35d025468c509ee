/- Tags as bytes: the reference's Put. -/
import Derived.Test.YtkmhmehofipehaaDoorFileBuildsM23
import Derived.Test.YtkmhmehofipehaaDoorFileBuildsM29
import Derived.Test.YtkmhmehofipehaaDoorFileBuildsM10
import Derived.Test.YtkmhmehofipehaaDoorFileBuildsM25
namespace Go.Proofs.YtkmhmehofipehaaDoor
set_option linter.unusedVariables false
open Go.RowKit
theorem refText_ok (b : List UInt8) (n : Nat) (h : 1 ≤ n ∧ n ≤ 8) (hv : b.length < 256 ^ n) : refText b (n : Int) = (0, bytesLE b.length n ++ b) := by
  have hU : refU b.length (n : Int) = (0, bytesLE b.length n) := by
    unfold refU
    rw [if_neg (by omega), if_neg]
    · rfl
    · rintro ⟨_, h3⟩
      rw [Int.toNat_natCast] at h3
      omega
  unfold refText
  rw [hU, if_neg (by simp)]
set_option maxRecDepth 20000 in
set_option maxHeartbeats 4000000 in
theorem rtagput_any (A : Option Addr) (c : Nat) (l : List TagV) (w : World) (hl : SeesT w A l) (hS : Short l) :
    Calls Tryd.prog 25 #[.slice A l.length c] w (ClonePost w (sealed (tagsB l))) := by
  have h64 := hS.1
  have hln : (l.length : Int) % 256 = (l.length : Int) := by omega
  have hb1 : Below w.heap.size w (w.alloc (.cells #[.int .u8 84, .int .u8 71, .int .u8 (l.length : Int)] 5)) := (Below.refl _ w).alloc (Nat.le_refl _) _
  have hrow := heap_alloc_new w (.cells #[.int .u8 84, .int .u8 71, .int .u8 (l.length : Int)] 5)
  have hhead : #[.int .u8 84, .int .u8 71, .int .u8 (l.length : Int)] = ((headB l).map byteV).toArray := by
    unfold headB byteV
    simp only [List.map_cons, List.map_nil, UInt8.toNat_ofNat']
    rw [Nat.mod_eq_of_lt (by omega)]
    rfl
  have ho1 : (w.alloc (.cells #[.int .u8 84, .int .u8 71, .int .u8 (l.length : Int)] 5)).ownsRow w.heap.size 5 1 (.slice (some ⟨w.heap.size, 0, none⟩) 3 3) 3 ((headB l ++ itemsB (l.take 0)).map byteV) :=
    ⟨rfl, .inr ⟨w.heap.size, 3, _, rfl, Nat.le_refl _, hrow, Nat.le_refl _, by unfold maxLen; omega, rfl, by rw [hhead]; simp [itemsB, headB]⟩⟩
  clear hrow hhead
  go_enter Tryd.func25, Tryd.ntmps25
  go_wp2_with fail
  generalize w.alloc (.cells #[.int .u8 84, .int .u8 71, .int .u8 (l.length : Int)] 5) = w1 at *
  go_loopw [3, 4, 5, 6, 7, 8] (fun x i ka ke va ve wr => ∃ n N : Nat, n ≤ l.length ∧ i = .int .i64 n ∧ N = (headB l ++ itemsB (l.take n)).length ∧ wr.ownsRow w.heap.size 5 1 x N ((headB l ++ itemsB (l.take n)).map byteV) ∧ Below w.heap.size w wr) (fun _ i _ _ _ _ _ => l.length - (intOf i).toNat)
  case atStart => exact ⟨0, 3, by omega, rfl, rfl, ho1, hb1⟩
  case round =>
    clear ho1 hb1
    obtain ⟨n, N, hn, rfl, hN, hown, hbw⟩ := hrel
    have HIL := hid (itemsB_len hS n hn)
    have HN := hid hN
    clear hN
    by_cases hlt : n < l.length
    · have hd : decide (n < l.length) = true := by simpa using hlt
      obtain ⟨a, rfl, c0, c1⟩ := (hl.below hbw).at hlt
      have hsz := hS.2 n hlt
      have HIS := hid (itemsB_step l n hlt)
      obtain ⟨K1, hK1⟩ : ∃ K1, K1 = bytesLE l[n].k.data.toList.length 1 ++ l[n].k.data.toList := ⟨_, rfl⟩
      obtain ⟨V1, hV1⟩ : ∃ V1, V1 = bytesLE l[n].v.data.toList.length 2 ++ l[n].v.data.toList := ⟨_, rfl⟩
      have HO := hid (show oneB l[n] = K1 ++ V1 by unfold oneB; rw [hK1, hV1, List.append_assoc])
      have HKl := hid (show K1.length ≤ 33 by rw [hK1, List.length_append, bytesLE_length, size_list]; omega)
      have HVl := hid (show V1.length ≤ 1026 by rw [hV1, List.length_append, bytesLE_length, size_list]; omega)
      have hK := hid (fun W => show Calls Tryd.prog 53 #[.string l[n].k, .int .i64 1] W (RefPost W (0, K1)) by
        rw [hK1, ← refText_ok l[n].k.data.toList 1 (by omega) (by rw [size_list]; omega)]
        exact rtext_any l[n].k 1 W (by omega))
      have hV := hid (fun W => show Calls Tryd.prog 53 #[.string l[n].v, .int .i64 2] W (RefPost W (0, V1)) by
        rw [hV1, ← refText_ok l[n].v.data.toList 2 (by omega) (by rw [size_list]; omega)]
        exact rtext_any l[n].v 2 W (by omega))
      clear hK1 hV1 hsz
      generalize l[n].k = kk at *
      generalize l[n].v = vv at *
      go_wp2_with fail
      refine (hK.out wr).mono ?_
      rintro e w1 ⟨v, rfl, hv⟩
      obtain ⟨A1, d1, rfl, hs1, hA1, _, hb1⟩ := hv.parts
      replace c0 := keep1 hb1 c0
      replace c1 := keep1 hb1 c1
      have hbw1 := hbw.trans (hb1.mono hbw.size)
      have hown1 := own_but hown (But.of_below (R := fun _ => False) hb1) (fun _ _ h => h)
      go_wp2_with fail
      refine (hV.out w1).mono ?_
      rintro e w2 ⟨v, rfl, hv⟩
      obtain ⟨A2, d2, rfl, hs2, hA2, _, hb2⟩ := hv.parts
      have hbw2 := hbw1.trans (hb2.mono hbw1.size)
      have hown2 := own_but hown1 (But.of_below (R := fun _ => False) hb2) (fun _ _ h => h)
      have hs1' := hs1.below hb2
      obtain ⟨N1, hN1⟩ : ∃ N1, N1 = N + K1.length := ⟨_, rfl⟩
      obtain ⟨N2, hN2⟩ : ∃ N2, N2 = N1 + V1.length := ⟨_, rfl⟩
      obtain ⟨M, hM⟩ : ∃ M, M = headB l ++ itemsB (l.take n) := ⟨_, rfl⟩
      rw [← hM] at hown2
      obtain ⟨M1, hM1⟩ : ∃ M1, M1 = M ++ K1 := ⟨_, rfl⟩
      have HM2 := hid (show headB l ++ itemsB (l.take (n + 1)) = M1 ++ V1 by rw [HIS.out, HO.out, hM1, hM, List.append_assoc, List.append_assoc])
      have HML := hid (show M.length = N by rw [HN.out, hM])
      have hIL : N ≤ 70000 := by rw [HN.out, List.length_append]; have := HIL.out; unfold headB; simp only [List.length_cons, List.length_nil]; omega
      have HKV := hid (show K1.map byteV = K1.map byteV from rfl)
      have HX1 := hid (show M.map byteV ++ K1.map byteV = M1.map byteV by rw [hM1, List.map_append])
      have HX2 := hid (show M1.map byteV ++ V1.map byteV = (M1 ++ V1).map byteV by rw [List.map_append])
      have HN1 := hid hN1
      have HN2 := hid hN2
      have HNF := hid (show N2 = (M1 ++ V1).length by rw [hN2, hN1, List.length_append, hM1, List.length_append, HML.out])
      have hwr : w.heap.size ≤ wr.heap.size := hbw.size
      have hown_lt := hid (fun k hk => own_lt hown (k := k) hk)
      clear hv hM hM1 hN1 hN2 hown hown1 hs1 c0 c1 hK hV hbw hbw1
      go_wp2_with (at_builtin; first
        | (refine wpList_app rfl (.tmp 37) (.tmp 38) _ rfl elB rfl hown2 A1 K1.length d1 rfl _ hs1' (by simp) (byte_one _) N1 HN1.out.symm _ HX1.out (by have := HKl.out; rw [HN1.out]; unfold maxLen; omega) (by have := HKl.out; rw [HN1.out]; omega) hbw2.size ?_; intro A3 d3 w3 hown3 hgr3 hat3 hbel3)
        | (refine wpList_app rfl (.tmp 39) (.tmp 40) _ rfl elB rfl hown3 A2 V1.length d2 rfl _ (SeesB.grown hs2 hgr3 (fun a ha he => absurd (hown_lt.out _ he.symm) (by have := (hA2 a ha).1; have := hb1.size; omega))) (by simp) (byte_one _) N2 HN2.out.symm _ HX2.out (by have := HKl.out; have := HVl.out; rw [HN2.out, HN1.out]; unfold maxLen; omega) (by have := HKl.out; have := HVl.out; rw [HN2.out, HN1.out]; omega) (hbw2.trans hbel3).size ?_; intro A4 d4 w4 hown4 hgr4 hat4 hbel4))
      exact ⟨⟨n + 1, N2, hlt, by go_num, by rw [HM2.out, HNF.out], by rw [HM2.out]; exact hown4, (hbw2.trans hbel3).trans hbel4⟩, by simp [intOf]; omega⟩
    · obtain rfl : n = l.length := by omega
      have hd : decide (l.length < l.length) = false := by simp
      obtain ⟨L, hL⟩ : ∃ L, L = tagsB l := ⟨_, rfl⟩
      have hLlen := tagsB_len hS
      rw [List.take_length, show headB l ++ itemsB l = tagsB l from rfl, ← hL] at hown
      rw [← hL] at hLlen
      have hNL : N = L.length := by rw [HN.out, List.take_length, hL]; rfl
      have HL := hid hL
      subst hNL
      obtain ⟨A5, c5, hx5, hs5, hA5⟩ := own_form hown
      subst hx5
      clear hL HN HIL
      have hsB : SeesB wr A5 L := hs5
      go_wp2_with fail
      have hsr := sumI_range L
      obtain ⟨S, hS⟩ := Int.eq_ofNat_of_zero_le hsr.1
      refine (rsum_any A5 c5 L wr hsB (by omega)).mono ?_
      rintro e w6 ⟨rfl, rfl⟩
      have HSE : Hid (sealed (tagsB l) = L ++ bytesLE S 4) := hid (by rw [← HL.out]; unfold sealed; rw [hS]; rfl)
      rw [hS] at hsr ⊢
      have hS4 : S < 4294967296 := by omega
      clear hS
      go_wp2_with fail
      refine (rbytes_any S 4 wr (by omega) (by omega)).mono ?_
      rintro e w7 ⟨v, rfl, hv⟩
      obtain ⟨A7, c7, rfl, hs7, hA7, ho7, hb7⟩ := hv.parts
      have hbw7 := hbw.trans (hb7.mono hbw.size)
      have hown7 := own_but hown (But.of_below (R := fun _ => False) hb7) (fun _ _ h => h)
      obtain ⟨Z, hZ⟩ : ∃ Z, Z = L ++ bytesLE S 4 := ⟨_, rfl⟩
      have HZl : Hid (L.length + (bytesLE S 4).length = Z.length) := hid (by rw [hZ, List.length_append])
      have HZv : Hid (L.map byteV ++ (bytesLE S 4).map byteV = Z.map byteV) := hid (by rw [hZ, List.map_append])
      have HZ19 : Hid (Z.length ≤ 70004) := hid (by rw [← HZl.out, bytesLE_length]; omega)
      have HZ : Hid (sealed (tagsB l) = Z) := hid (by rw [HSE.out, hZ])
      clear hZ HSE hown hv ho7 hb7 hA7 HL hs5 hA5 hsB
      go_wp2_with (at_builtin; refine wpList_app rfl (.tmp 42) (.tmp 46) _ rfl elB rfl hown7 A7 (bytesLE S 4).length c7 rfl _ hs7 (by simp) (byte_one _) Z.length HZl.out (Z.map byteV) HZv.out (by have := HZ19.out; unfold maxLen; omega) (by have := HZ19.out; omega) hbw7.size ?_; intro A8 c8 w8 hown8 hgr8 hat8 hbel8)
      have hf : ClonePost w (sealed (tagsB l)) (.returned (.slice A8 Z.length c8)) w8 := ⟨_, rfl, A8, c8, by rw [HZ.out], by rw [HZ.out]; exact hown8, hbw7.trans hbel8⟩
      go_ret
      exact hf
end Go.Proofs.YtkmhmehofipehaaDoor
/- The reference's bytes of info. -/
namespace Go.Proofs.YtkmhmehofipehaaDoor
set_option linter.unusedVariables false
open Go.RowKit
theorem bytesLE_one (k : Nat) (h : k < 256) : bytesLE k 1 = [UInt8.ofNat k] := by
  simp [bytesLE, Nat.mod_eq_of_lt h]
theorem byteV_nat (k : Nat) (h : k < 256) : byteV (UInt8.ofNat k) = .int .u8 (k : Int) := by
  rw [byteV, UInt8.toNat_ofNat', Nat.mod_eq_of_lt h]
def infoEight (k ch bi sh : Nat) : List UInt8 := [68, 83, 67, 49, UInt8.ofNat k, UInt8.ofNat ch, UInt8.ofNat bi, UInt8.ofNat sh]
theorem infoHead_is (k ch bi sh ra bl : Nat) (hk : k < 256 ∧ ch < 256 ∧ bi < 256 ∧ sh < 256) : infoHead k ch bi sh ra bl = infoEight k ch bi sh ++ bytesLE ra 3 ++ bytesLE bl 4 := by
  obtain ⟨h1, h2, h3, h4⟩ := hk
  simp [infoHead, infoEight, bytesLE_one _ h1, bytesLE_one _ h2, bytesLE_one _ h3, bytesLE_one _ h4]
set_option maxHeartbeats 4000000 in
theorem riput_any (k ch bi ra bl sh : Nat) (w : World) (hk : k < 256 ∧ ch < 256 ∧ bi < 256 ∧ sh < 256 ∧ ra < 16777216 ∧ bl < 4294967296) :
    Calls Tryd.prog 24 #[.agg #[.int .i64 k, .int .i64 ch, .int .i64 bi, .int .i64 ra, .int .i64 bl, .int .i64 sh]] w (ClonePost w (sealed (infoHead k ch bi sh ra bl))) := by
  have hhd := hid (infoHead_is k ch bi sh ra bl ⟨hk.1, hk.2.1, hk.2.2.1, hk.2.2.2.1⟩)
  obtain ⟨k1, k2, k3, k4, k5, k6⟩ := hk
  have hb : Below w.heap.size w (w.alloc (.cells #[.int .i64 k, .int .i64 ch, .int .i64 bi, .int .i64 ra, .int .i64 bl, .int .i64 sh] 25)) := (Below.refl _ w).alloc (Nat.le_refl _) _
  have hrow := heap_alloc_new w (.cells #[.int .i64 k, .int .i64 ch, .int .i64 bi, .int .i64 ra, .int .i64 bl, .int .i64 sh] 25)
  go_enter Tryd.func24, Tryd.ntmps24
  go_wp2_with fail
  have hsz0 : (w.alloc (.cells #[.int .i64 k, .int .i64 ch, .int .i64 bi, .int .i64 ra, .int .i64 bl, .int .i64 sh] 25)).heap.size = w.heap.size + 1 := by simp
  generalize w.alloc (.cells #[.int .i64 k, .int .i64 ch, .int .i64 bi, .int .i64 ra, .int .i64 bl, .int .i64 sh] 25) = w0 at *
  have hlt0 : w.heap.size < w0.heap.size := by omega
  have hrow8 := heap_alloc_new w0 (.cells #[.int .u8 68, .int .u8 83, .int .u8 67, .int .u8 49, .int .u8 (k : Int), .int .u8 (ch : Int), .int .u8 (bi : Int), .int .u8 (sh : Int)] 5)
  have hb1 : Below w0.heap.size w0 (w0.alloc (.cells #[.int .u8 68, .int .u8 83, .int .u8 67, .int .u8 49, .int .u8 (k : Int), .int .u8 (ch : Int), .int .u8 (bi : Int), .int .u8 (sh : Int)] 5)) := (Below.refl _ w0).alloc (Nat.le_refl _) _
  generalize w0.alloc (.cells #[.int .u8 68, .int .u8 83, .int .u8 67, .int .u8 49, .int .u8 (k : Int), .int .u8 (ch : Int), .int .u8 (bi : Int), .int .u8 (sh : Int)] 5) = w1 at *
  rw [hsz0] at hrow8
  have ho1 : w1.ownsRow (w.heap.size + 1) 5 1 (.slice (some ⟨w.heap.size + 1, 0, none⟩) 8 8) 8 ((infoEight k ch bi sh).map byteV) :=
    ⟨rfl, .inr ⟨w.heap.size + 1, 8, _, rfl, by omega, hrow8, Nat.le_refl _, by unfold maxLen; omega, rfl, by simp only [infoEight, List.map_cons, List.map_nil, byteV_nat _ k1, byteV_nat _ k2, byteV_nat _ k3, byteV_nat _ k4]; rfl⟩⟩
  have hbw1 := hb.trans (hb1.mono hb.size)
  have hrow1 := (hb1.block w.heap.size hlt0).trans hrow
  have hlt1 : w.heap.size < w1.heap.size := Nat.lt_of_lt_of_le hlt0 hb1.size
  clear hrow8 hb1 hb hrow hsz0
  refine (rbytes_any ra 3 w1 (by omega) (by omega)).mono ?_
  rintro e w2 ⟨v, rfl, hv⟩
  obtain ⟨A2, c2, rfl, hs2, hA2, ho2, hb2⟩ := hv.parts
  have hbw2 := hbw1.trans (hb2.mono hbw1.size)
  have hrow2 := (hb2.block w.heap.size hlt1).trans hrow1
  have hlt2 := Nat.lt_of_lt_of_le hlt1 hb2.size
  have c4 : w2.cell? ⟨w.heap.size, 4, none⟩ = some (.int .i64 (bl : Int)) := by rw [cell_of_row _ _ _ _ _ _ hrow2]; rfl
  have ho1' := own_but ho1 (But.of_below (R := fun _ => False) hb2) (fun _ _ h => h)
  obtain ⟨M, hM⟩ : ∃ M, M = infoEight k ch bi sh ++ bytesLE ra 3 := ⟨_, rfl⟩
  have hMl : 8 + (bytesLE ra 3).length = M.length := by rw [hM, List.length_append]; rfl
  have hMv : (infoEight k ch bi sh).map byteV ++ (bytesLE ra 3).map byteV = M.map byteV := by rw [hM, List.map_append]
  have hM11 : M.length = 11 := by rw [← hMl, bytesLE_length]
  have HHD : Hid (infoHead k ch bi sh ra bl = M ++ bytesLE bl 4) := hid (by rw [hhd.out, hM])
  have HMl := hid hMl
  have HMv := hid hMv
  have HM := hid hM11
  clear hM hMl hMv hM11 ho1 hrow1 hb2 hv ho2 hbw1 hhd
  go_wp2_with (at_builtin; refine wpList_app rfl (.tmp 19) (.tmp 24) _ rfl elB rfl ho1' A2 (bytesLE ra 3).length c2 rfl _ hs2 (by simp) (byte_one _) M.length HMl.out (M.map byteV) HMv.out (by rw [HM.out]; unfold maxLen; omega) (by rw [HM.out]; omega) hlt2 ?_; intro A3 c3 w3 hown hgr hat hbel; have d4 : w3.cell? ⟨w.heap.size, 4, none⟩ = some (.int .i64 (bl : Int)) := (World.cell?_of_block (w := w2) (hbel.block w.heap.size (Nat.lt_succ_self _))).trans c4)
  have hbw3 := hbw2.trans (hbel.mono (Nat.le_succ _))
  have hlt3 := Nat.lt_of_lt_of_le hlt2 hbel.size
  clear ho1' hgr hat hs2 hA2 d4 c4 hrow2 HMl HMv hbel
  refine (rbytes_any bl 4 w3 (by omega) (by omega)).mono ?_
  rintro e w4 ⟨v, rfl, hv⟩
  obtain ⟨A4, c4, rfl, hs4, hA4, ho4, hb4⟩ := hv.parts
  have hbw4 := hbw3.trans (hb4.mono hbw3.size)
  have hlt4 := Nat.lt_of_lt_of_le hlt3 hb4.size
  have hown4 := own_but hown (But.of_below (R := fun _ => False) hb4) (fun _ _ h => h)
  obtain ⟨L, hL⟩ : ∃ L, L = infoHead k ch bi sh ra bl := ⟨_, rfl⟩
  have hL2 : L = M ++ bytesLE bl 4 := by rw [hL, HHD.out]
  have HLl : Hid (M.length + (bytesLE bl 4).length = L.length) := hid (by rw [hL2, List.length_append])
  have HLv : Hid (M.map byteV ++ (bytesLE bl 4).map byteV = L.map byteV) := hid (by rw [hL2, List.map_append])
  have HL15 : Hid (L.length = 15) := hid (by rw [← HLl.out, HM.out, bytesLE_length])
  have HL := hid hL
  have hlt5 : w.heap.size + 1 ≤ w4.heap.size := hlt4
  clear hL hL2 hown hv ho4 hb4 hA4
  go_wp2_with (at_builtin; refine wpList_app rfl (.tmp 26) (.tmp 30) _ rfl elB rfl hown4 A4 (bytesLE bl 4).length c4 rfl _ hs4 (by simp) (byte_one _) L.length HLl.out (L.map byteV) HLv.out (by rw [HL15.out]; unfold maxLen; omega) (by rw [HL15.out]; omega) hlt5 ?_; intro A5 c5 w5 hown5 hgr5 hat5 hbel5)
  have hbw5 := hbw4.trans (hbel5.mono (Nat.le_succ _))
  have hlt6 := Nat.lt_of_lt_of_le hlt5 hbel5.size
  have hs5 : SeesB w5 A5 L := own_sees hown5
  clear hown4 hgr5 hat5 hs4 HLl HLv hbel5
  have hsr := sumI_range L
  obtain ⟨S, hS⟩ := Int.eq_ofNat_of_zero_le hsr.1
  refine (rsum_any A5 c5 L w5 hs5 (by rw [HL15.out]; omega)).mono ?_
  rintro e w6 ⟨rfl, rfl⟩
  have HSE : Hid (sealed (infoHead k ch bi sh ra bl) = L ++ bytesLE S 4) := hid (by rw [← HL.out]; unfold sealed; rw [hS]; rfl)
  rw [hS] at hsr ⊢
  have hS4 : S < 4294967296 := by omega
  clear hS
  go_wp2_with fail
  refine (rbytes_any S 4 w5 (by omega) (by omega)).mono ?_
  rintro e w7 ⟨v, rfl, hv⟩
  obtain ⟨A7, c7, rfl, hs7, hA7, ho7, hb7⟩ := hv.parts
  have hbw7 := hbw5.trans (hb7.mono hbw5.size)
  have hlt7 := Nat.le_trans hlt6 hb7.size
  have hown7 := own_but hown5 (But.of_below (R := fun _ => False) hb7) (fun _ _ h => h)
  obtain ⟨Z, hZ⟩ : ∃ Z, Z = L ++ bytesLE S 4 := ⟨_, rfl⟩
  have HZl : Hid (L.length + (bytesLE S 4).length = Z.length) := hid (by rw [hZ, List.length_append])
  have HZv : Hid (L.map byteV ++ (bytesLE S 4).map byteV = Z.map byteV) := hid (by rw [hZ, List.map_append])
  have HZ19 : Hid (Z.length = 19) := hid (by rw [← HZl.out, HL15.out, bytesLE_length])
  have HZ : Hid (sealed (infoHead k ch bi sh ra bl) = Z) := hid (by rw [HSE.out, hZ])
  clear hZ HSE hown5 hv ho7 hb7 hA7 HL
  go_wp2_with (at_builtin; refine wpList_app rfl (.tmp 32) (.tmp 36) _ rfl elB rfl hown7 A7 (bytesLE S 4).length c7 rfl _ hs7 (by simp) (byte_one _) Z.length HZl.out (Z.map byteV) HZv.out (by rw [HZ19.out]; unfold maxLen; omega) (by rw [HZ19.out]; omega) hlt7 ?_; intro A8 c8 w8 hown8 hgr8 hat8 hbel8)
  have hf : ClonePost w (sealed (infoHead k ch bi sh ra bl)) (.returned (.slice A8 Z.length c8)) w8 := ⟨_, rfl, A8, c8, by rw [HZ.out], by rw [HZ.out]; exact Joins.ownsRow_le hown8 (Nat.le_succ _), hbw7.trans (hbel8.mono (Nat.le_succ _))⟩
  go_ret
  exact hf
end Go.Proofs.YtkmhmehofipehaaDoor
