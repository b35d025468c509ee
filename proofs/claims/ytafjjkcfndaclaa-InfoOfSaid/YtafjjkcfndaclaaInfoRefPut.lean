/- The reference's bytes of info. -/
import Derived.Test.YtafjjkcfndaclaaInfoPut
import Derived.Test.YtafjjkcfndaclaaRefBytes
import Derived.Test.YtafjjkcfndaclaaFieldOwn
namespace Go.Proofs.Ytafjjkcfndaclaa
set_option linter.unusedVariables false
open Go.RowKit
theorem bytesLE_one (k : Nat) (h : k < 256) : bytesLE k 1 = [UInt8.ofNat k] := by
  simp [bytesLE, Nat.mod_eq_of_lt h]
theorem byteV_nat (k : Nat) (h : k < 256) : byteV (UInt8.ofNat k) = .int .u8 (k : Int) := by
  rw [byteV, UInt8.toNat_ofNat', Nat.mod_eq_of_lt h]
def infoEight (k ch bi sh : Nat) : List UInt8 := [68, 83, 67, 49, UInt8.ofNat k, UInt8.ofNat ch, UInt8.ofNat bi, UInt8.ofNat sh]
theorem infoHead_is (k ch bi sh ra bl : Nat) (hk : k < 256 ∧ ch < 256 ∧ bi < 256 ∧ sh < 256) : infoHead k ch bi sh ra bl = infoEight k ch bi sh ++ bytesLE ra 3 ++ bytesLE bl 4 := by
  obtain ⟨h1, h2, h3, h4⟩ := hk
  simp [infoHead, infoEight, bytesLE_one _ h1, bytesLE_one _ h2, bytesLE_one _ h3, bytesLE_one _ h4]
set_option maxHeartbeats 4000000 in
theorem riput_any (k ch bi ra bl sh : Nat) (w : World) (hk : k < 256 ∧ ch < 256 ∧ bi < 256 ∧ sh < 256 ∧ ra < 16777216 ∧ bl < 4294967296) :
    Calls Try.prog 14 #[.agg #[.int .i64 k, .int .i64 ch, .int .i64 bi, .int .i64 ra, .int .i64 bl, .int .i64 sh]] w (ClonePost w (sealed (infoHead k ch bi sh ra bl))) := by
  have hhd := hid (infoHead_is k ch bi sh ra bl ⟨hk.1, hk.2.1, hk.2.2.1, hk.2.2.2.1⟩)
  obtain ⟨k1, k2, k3, k4, k5, k6⟩ := hk
  have hb : Below w.heap.size w (w.alloc (.cells #[.int .i64 k, .int .i64 ch, .int .i64 bi, .int .i64 ra, .int .i64 bl, .int .i64 sh] 25)) := (Below.refl _ w).alloc (Nat.le_refl _) _
  have hrow := heap_alloc_new w (.cells #[.int .i64 k, .int .i64 ch, .int .i64 bi, .int .i64 ra, .int .i64 bl, .int .i64 sh] 25)
  go_enter Try.func14, Try.ntmps14
  go_wp2_with fail
  have hsz0 : (w.alloc (.cells #[.int .i64 k, .int .i64 ch, .int .i64 bi, .int .i64 ra, .int .i64 bl, .int .i64 sh] 25)).heap.size = w.heap.size + 1 := by simp
  generalize w.alloc (.cells #[.int .i64 k, .int .i64 ch, .int .i64 bi, .int .i64 ra, .int .i64 bl, .int .i64 sh] 25) = w0 at *
  have hlt0 : w.heap.size < w0.heap.size := by omega
  have hrow8 := heap_alloc_new w0 (.cells #[.int .u8 68, .int .u8 83, .int .u8 67, .int .u8 49, .int .u8 (k : Int), .int .u8 (ch : Int), .int .u8 (bi : Int), .int .u8 (sh : Int)] 5)
  have hb1 : Below w0.heap.size w0 (w0.alloc (.cells #[.int .u8 68, .int .u8 83, .int .u8 67, .int .u8 49, .int .u8 (k : Int), .int .u8 (ch : Int), .int .u8 (bi : Int), .int .u8 (sh : Int)] 5)) := (Below.refl _ w0).alloc (Nat.le_refl _) _
  generalize w0.alloc (.cells #[.int .u8 68, .int .u8 83, .int .u8 67, .int .u8 49, .int .u8 (k : Int), .int .u8 (ch : Int), .int .u8 (bi : Int), .int .u8 (sh : Int)] 5) = w1 at *
  rw [hsz0] at hrow8
  have ho1 : w1.ownsRow (w.heap.size + 1) 5 1 (.slice (some ⟨w.heap.size + 1, 0, none⟩) 8 8) 8 ((infoEight k ch bi sh).map byteV) :=
    ⟨rfl, .inr ⟨w.heap.size + 1, 8, _, rfl, by omega, hrow8, Nat.le_refl _, by unfold maxLen; omega, rfl, by simp only [infoEight, List.map_cons, List.map_nil, byteV_nat _ k1, byteV_nat _ k2, byteV_nat _ k3, byteV_nat _ k4]; rfl⟩⟩
  have hbw1 := hb.trans (hb1.mono hb.size)
  have hrow1 := (hb1.block w.heap.size hlt0).trans hrow
  have hlt1 : w.heap.size < w1.heap.size := Nat.lt_of_lt_of_le hlt0 hb1.size
  clear hrow8 hb1 hb hrow hsz0
  refine (rbytes_any ra 3 w1 (by omega) (by omega)).mono ?_
  rintro e w2 ⟨v, rfl, hv⟩
  obtain ⟨A2, c2, rfl, hs2, hA2, ho2, hb2⟩ := hv.parts
  have hbw2 := hbw1.trans (hb2.mono hbw1.size)
  have hrow2 := (hb2.block w.heap.size hlt1).trans hrow1
  have hlt2 := Nat.lt_of_lt_of_le hlt1 hb2.size
  have c4 : w2.cell? ⟨w.heap.size, 4, none⟩ = some (.int .i64 (bl : Int)) := by rw [cell_of_row _ _ _ _ _ _ hrow2]; rfl
  have ho1' := own_but ho1 (But.of_below (R := fun _ => False) hb2) (fun _ _ h => h)
  obtain ⟨M, hM⟩ : ∃ M, M = infoEight k ch bi sh ++ bytesLE ra 3 := ⟨_, rfl⟩
  have hMl : 8 + (bytesLE ra 3).length = M.length := by rw [hM, List.length_append]; rfl
  have hMv : (infoEight k ch bi sh).map byteV ++ (bytesLE ra 3).map byteV = M.map byteV := by rw [hM, List.map_append]
  have hM11 : M.length = 11 := by rw [← hMl, bytesLE_length]
  have HHD : Hid (infoHead k ch bi sh ra bl = M ++ bytesLE bl 4) := hid (by rw [hhd.out, hM])
  have HMl := hid hMl
  have HMv := hid hMv
  have HM := hid hM11
  clear hM hMl hMv hM11 ho1 hrow1 hb2 hv ho2 hbw1 hhd
  go_wp2_with (at_builtin; refine wpList_app rfl (.tmp 19) (.tmp 24) _ rfl elB rfl ho1' A2 (bytesLE ra 3).length c2 rfl _ hs2 (by simp) (byte_one _) M.length HMl.out (M.map byteV) HMv.out (by rw [HM.out]; unfold maxLen; omega) (by rw [HM.out]; omega) hlt2 ?_; intro A3 c3 w3 hown hgr hat hbel; have d4 : w3.cell? ⟨w.heap.size, 4, none⟩ = some (.int .i64 (bl : Int)) := (World.cell?_of_block (w := w2) (hbel.block w.heap.size (Nat.lt_succ_self _))).trans c4)
  have hbw3 := hbw2.trans (hbel.mono (Nat.le_succ _))
  have hlt3 := Nat.lt_of_lt_of_le hlt2 hbel.size
  clear ho1' hgr hat hs2 hA2 d4 c4 hrow2 HMl HMv hbel
  refine (rbytes_any bl 4 w3 (by omega) (by omega)).mono ?_
  rintro e w4 ⟨v, rfl, hv⟩
  obtain ⟨A4, c4, rfl, hs4, hA4, ho4, hb4⟩ := hv.parts
  have hbw4 := hbw3.trans (hb4.mono hbw3.size)
  have hlt4 := Nat.lt_of_lt_of_le hlt3 hb4.size
  have hown4 := own_but hown (But.of_below (R := fun _ => False) hb4) (fun _ _ h => h)
  obtain ⟨L, hL⟩ : ∃ L, L = infoHead k ch bi sh ra bl := ⟨_, rfl⟩
  have hL2 : L = M ++ bytesLE bl 4 := by rw [hL, HHD.out]
  have HLl : Hid (M.length + (bytesLE bl 4).length = L.length) := hid (by rw [hL2, List.length_append])
  have HLv : Hid (M.map byteV ++ (bytesLE bl 4).map byteV = L.map byteV) := hid (by rw [hL2, List.map_append])
  have HL15 : Hid (L.length = 15) := hid (by rw [← HLl.out, HM.out, bytesLE_length])
  have HL := hid hL
  have hlt5 : w.heap.size + 1 ≤ w4.heap.size := hlt4
  clear hL hL2 hown hv ho4 hb4 hA4
  go_wp2_with (at_builtin; refine wpList_app rfl (.tmp 26) (.tmp 30) _ rfl elB rfl hown4 A4 (bytesLE bl 4).length c4 rfl _ hs4 (by simp) (byte_one _) L.length HLl.out (L.map byteV) HLv.out (by rw [HL15.out]; unfold maxLen; omega) (by rw [HL15.out]; omega) hlt5 ?_; intro A5 c5 w5 hown5 hgr5 hat5 hbel5)
  have hbw5 := hbw4.trans (hbel5.mono (Nat.le_succ _))
  have hlt6 := Nat.lt_of_lt_of_le hlt5 hbel5.size
  have hs5 : SeesB w5 A5 L := own_sees hown5
  clear hown4 hgr5 hat5 hs4 HLl HLv hbel5
  have hsr := sumI_range L
  obtain ⟨S, hS⟩ := Int.eq_ofNat_of_zero_le hsr.1
  refine (rsum_any A5 c5 L w5 hs5 (by rw [HL15.out]; omega)).mono ?_
  rintro e w6 ⟨rfl, rfl⟩
  have HSE : Hid (sealed (infoHead k ch bi sh ra bl) = L ++ bytesLE S 4) := hid (by rw [← HL.out]; unfold sealed; rw [hS]; rfl)
  rw [hS] at hsr ⊢
  have hS4 : S < 4294967296 := by omega
  clear hS
  go_wp2_with fail
  refine (rbytes_any S 4 w5 (by omega) (by omega)).mono ?_
  rintro e w7 ⟨v, rfl, hv⟩
  obtain ⟨A7, c7, rfl, hs7, hA7, ho7, hb7⟩ := hv.parts
  have hbw7 := hbw5.trans (hb7.mono hbw5.size)
  have hlt7 := Nat.le_trans hlt6 hb7.size
  have hown7 := own_but hown5 (But.of_below (R := fun _ => False) hb7) (fun _ _ h => h)
  obtain ⟨Z, hZ⟩ : ∃ Z, Z = L ++ bytesLE S 4 := ⟨_, rfl⟩
  have HZl : Hid (L.length + (bytesLE S 4).length = Z.length) := hid (by rw [hZ, List.length_append])
  have HZv : Hid (L.map byteV ++ (bytesLE S 4).map byteV = Z.map byteV) := hid (by rw [hZ, List.map_append])
  have HZ19 : Hid (Z.length = 19) := hid (by rw [← HZl.out, HL15.out, bytesLE_length])
  have HZ : Hid (sealed (infoHead k ch bi sh ra bl) = Z) := hid (by rw [HSE.out, hZ])
  clear hZ HSE hown5 hv ho7 hb7 hA7 HL
  go_wp2_with (at_builtin; refine wpList_app rfl (.tmp 32) (.tmp 36) _ rfl elB rfl hown7 A7 (bytesLE S 4).length c7 rfl _ hs7 (by simp) (byte_one _) Z.length HZl.out (Z.map byteV) HZv.out (by rw [HZ19.out]; unfold maxLen; omega) (by rw [HZ19.out]; omega) hlt7 ?_; intro A8 c8 w8 hown8 hgr8 hat8 hbel8)
  have hf : ClonePost w (sealed (infoHead k ch bi sh ra bl)) (.returned (.slice A8 Z.length c8)) w8 := ⟨_, rfl, A8, c8, by rw [HZ.out], by rw [HZ.out]; exact Joins.ownsRow_le hown8 (Nat.le_succ _), hbw7.trans (hbel8.mono (Nat.le_succ _))⟩
  go_ret
  exact hf
end Go.Proofs.Ytafjjkcfndaclaa
