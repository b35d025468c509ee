/- The reference's fields: Bytes. -/
import Derived.Test.YtkmhmehofipehaaDoorC2
import Derived.Test.YtkmhmehofipehaaDoorC12
import Derived.Test.YtkmhmehofipehaaDoorC6
import Derived.Test.YtkmhmehofipehaaDoorC3
import Derived.Test.YtkmhmehofipehaaDoorC1
import Derived.Laws.StructEq
import Derived.WalkSpells
import Derived.WalkLawsBesides
namespace Go.Proofs.YtkmhmehofipehaaDoor
set_option linter.unusedVariables false
open Go.RowKit
theorem uint8_info : (Tryd.prog.info? 5).map (fun i => (i.zero, i.size, i.bytes)) = some (some (.int .u8 0), 1, 1) := by kernel_rfl
theorem make_bytes (n : Nat) (hn : n ≤ 281474976710656) (w : World) : (Instr.makeSlice 32 (.int .i64 (n : Int)) (.int .i64 (n : Int))).run Tryd.prog w =
    .ok (.slice (some ⟨w.heap.size, 0, none⟩) n n) (w.alloc (.cells (madeCells #[.int .u8 0] n) 5)) := by
  obtain ⟨i, h0, h1, h2, h3⟩ := info_parts uint8_info
  have hr := run_make (P := Tryd.prog) w 32 5 i (.int .u8 0) Tryd.underlying32 h0 h1 .i64 .i64 n n (by omega) (by omega) (by rw [h3]; omega) (by omega)
  simp only [Int.toNat_natCast, h2, Nat.mul_one] at hr
  exact hr
theorem own_made (n : Nat) (hn : n ≤ 281474976710656) (w : World) : (w.alloc (.cells (madeCells #[.int .u8 0] n) 5)).ownsRow w.heap.size 5 1 (.slice (some ⟨w.heap.size, 0, none⟩) n n) n (List.replicate n (.int .u8 0)) := by
  refine ⟨by simp, .inr ⟨w.heap.size, n, _, rfl, Nat.le_refl _, heap_alloc_new _ _, Nat.le_refl _, by unfold maxLen; omega, by simp [size_madeCells], ?_⟩⟩
  rw [toList_madeCells_one, Nat.mul_one, List.take_of_length_le (by simp)]
/-- what is laid as yet -/
def laidTo (v n k : Nat) : List Value := (bytesLE v k).map byteV ++ List.replicate (n - k) (.int .u8 0)
theorem laid_set (v n k : Nat) (h : k < n) : (laidTo v n k).set k (byteV (UInt8.ofNat (v / 256 ^ k % 256))) = laidTo v n (k + 1) := by
  unfold laidTo
  rw [bytesLE_snoc, List.set_append_right _ _ (by simp [bytesLE_length])]
  simp only [List.length_map, bytesLE_length, Nat.sub_self, List.map_append, List.map_cons, List.map_nil, List.append_assoc]
  obtain ⟨m, hm⟩ : ∃ m, n - k = m + 1 := ⟨n - k - 1, by omega⟩
  rw [hm, show n - (k + 1) = m by omega, List.replicate_succ]; rfl
theorem laid_all (v n : Nat) : laidTo v n n = (bytesLE v n).map byteV := by simp [laidTo]
theorem laid_get (v n k : Nat) (h : k < n) : ∃ u, (laidTo v n k)[k]? = some u := by
  refine ⟨_, List.getElem?_eq_getElem ?_⟩
  simp [laidTo, bytesLE_length]; omega
set_option maxHeartbeats 1000000 in
theorem rbytes_any (v n : Nat) (w : World) (hv : v < 18446744073709551616) (hn : n ≤ 8) :
    Calls Tryd.prog 36 #[.int .u64 (v : Int), .int .i64 (n : Int)] w (ClonePost w (bytesLE v n)) := by
  have hmk := make_bytes n (by omega)
  have hown := own_made n (by omega) w
  have hb0 : Below w.heap.size w (w.alloc (.cells (madeCells #[.int .u8 0] n) 5)) := (Below.refl _ _).alloc (Nat.le_refl _) _
  go_enter Tryd.func36, Tryd.ntmps36
  go_wp2_with fail
  generalize hw0 : w.alloc (.cells (madeCells #[.int .u8 0] n) 5) = w0 at *
  clear hw0
  go_loopw [0, 6] (fun x i wr => ∃ k : Nat, k ≤ n ∧ i = .int .i64 k ∧ x = .int .u64 ((v / 256 ^ k : Nat) : Int) ∧ wr.ownsRow w.heap.size 5 1 (.slice (some ⟨w.heap.size, 0, none⟩) n n) n (laidTo v n k) ∧ Below w.heap.size w wr) (fun _ i _ => n - (intOf i).toNat)
  case atStart => exact ⟨0, by omega, rfl, by simp, by simpa [laidTo, bytesLE] using hown, hb0⟩
  case round =>
    obtain ⟨k, hk, rfl, rfl, ho, hb⟩ := hrel
    by_cases hlt : k < n
    · obtain ⟨u, hu⟩ := laid_get v n k hlt
      have hc := (ho.cellAt k (by omega)).trans hu
      have hf := ho.frozenAt k
      have hst := (ho.stored k (byteV (UInt8.ofNat (v / 256 ^ k % 256)))).1
      rw [laid_set v n k hlt] at hst
      have hxv : byteV (UInt8.ofNat (v / 256 ^ k % 256)) = .int .u8 (((v / 256 ^ k : Nat) : Int) % 256) := by
        rw [byteV, UInt8.toNat_ofNat', Nat.mod_eq_of_lt (by omega)]; rfl
      have hdiv : v / 256 ^ (k + 1) = v / 256 ^ k / 256 := by rw [Nat.pow_succ, Nat.div_div_eq_div_mul]
      rw [hxv] at hst
      have HD := hid hdiv
      have hdv : v / 256 ^ k ≤ v := Nat.div_le_self _ _
      clear hdiv hxv hu
      generalize v / 256 ^ k = y at hdv hst HD
      have hd : decide ((k : Int) < n) = true := by simp; omega
      go_wp2_with fail
      exact ⟨⟨k + 1, by omega, by go_num, by rw [HD.out]; rfl, hst, hb.setCell (Nat.le_refl _) _⟩, by simp [intOf]; omega⟩
    · obtain rfl : k = n := by omega
      rw [laid_all] at ho
      have hlen := bytesLE_length v k
      go_wp2_with fail
      go_ret
      refine ⟨_, rfl, some ⟨w.heap.size, 0, none⟩, k, by rw [hlen]; rfl, by rw [hlen]; exact ho, hb⟩
end Go.Proofs.YtkmhmehofipehaaDoor
/- The reference's bytes of info. -/
namespace Go.Proofs.YtkmhmehofipehaaDoor
set_option linter.unusedVariables false
open Go.RowKit
theorem bytesLE_one (k : Nat) (h : k < 256) : bytesLE k 1 = [UInt8.ofNat k] := by
  simp [bytesLE, Nat.mod_eq_of_lt h]
theorem byteV_nat (k : Nat) (h : k < 256) : byteV (UInt8.ofNat k) = .int .u8 (k : Int) := by
  rw [byteV, UInt8.toNat_ofNat', Nat.mod_eq_of_lt h]
def infoEight (k ch bi sh : Nat) : List UInt8 := [68, 83, 67, 49, UInt8.ofNat k, UInt8.ofNat ch, UInt8.ofNat bi, UInt8.ofNat sh]
theorem infoHead_is (k ch bi sh ra bl : Nat) (hk : k < 256 ∧ ch < 256 ∧ bi < 256 ∧ sh < 256) : infoHead k ch bi sh ra bl = infoEight k ch bi sh ++ bytesLE ra 3 ++ bytesLE bl 4 := by
  obtain ⟨h1, h2, h3, h4⟩ := hk
  simp [infoHead, infoEight, bytesLE_one _ h1, bytesLE_one _ h2, bytesLE_one _ h3, bytesLE_one _ h4]
set_option maxHeartbeats 4000000 in
theorem riput_any (k ch bi ra bl sh : Nat) (w : World) (hk : k < 256 ∧ ch < 256 ∧ bi < 256 ∧ sh < 256 ∧ ra < 16777216 ∧ bl < 4294967296) :
    Calls Tryd.prog 24 #[.agg #[.int .i64 k, .int .i64 ch, .int .i64 bi, .int .i64 ra, .int .i64 bl, .int .i64 sh]] w (ClonePost w (sealed (infoHead k ch bi sh ra bl))) := by
  have hhd := hid (infoHead_is k ch bi sh ra bl ⟨hk.1, hk.2.1, hk.2.2.1, hk.2.2.2.1⟩)
  obtain ⟨k1, k2, k3, k4, k5, k6⟩ := hk
  have hb : Below w.heap.size w (w.alloc (.cells #[.int .i64 k, .int .i64 ch, .int .i64 bi, .int .i64 ra, .int .i64 bl, .int .i64 sh] 25)) := (Below.refl _ w).alloc (Nat.le_refl _) _
  have hrow := heap_alloc_new w (.cells #[.int .i64 k, .int .i64 ch, .int .i64 bi, .int .i64 ra, .int .i64 bl, .int .i64 sh] 25)
  go_enter Tryd.func24, Tryd.ntmps24
  go_wp2_with fail
  have hsz0 : (w.alloc (.cells #[.int .i64 k, .int .i64 ch, .int .i64 bi, .int .i64 ra, .int .i64 bl, .int .i64 sh] 25)).heap.size = w.heap.size + 1 := by simp
  generalize w.alloc (.cells #[.int .i64 k, .int .i64 ch, .int .i64 bi, .int .i64 ra, .int .i64 bl, .int .i64 sh] 25) = w0 at *
  have hlt0 : w.heap.size < w0.heap.size := by omega
  have hrow8 := heap_alloc_new w0 (.cells #[.int .u8 68, .int .u8 83, .int .u8 67, .int .u8 49, .int .u8 (k : Int), .int .u8 (ch : Int), .int .u8 (bi : Int), .int .u8 (sh : Int)] 5)
  have hb1 : Below w0.heap.size w0 (w0.alloc (.cells #[.int .u8 68, .int .u8 83, .int .u8 67, .int .u8 49, .int .u8 (k : Int), .int .u8 (ch : Int), .int .u8 (bi : Int), .int .u8 (sh : Int)] 5)) := (Below.refl _ w0).alloc (Nat.le_refl _) _
  generalize w0.alloc (.cells #[.int .u8 68, .int .u8 83, .int .u8 67, .int .u8 49, .int .u8 (k : Int), .int .u8 (ch : Int), .int .u8 (bi : Int), .int .u8 (sh : Int)] 5) = w1 at *
  rw [hsz0] at hrow8
  have ho1 : w1.ownsRow (w.heap.size + 1) 5 1 (.slice (some ⟨w.heap.size + 1, 0, none⟩) 8 8) 8 ((infoEight k ch bi sh).map byteV) :=
    ⟨rfl, .inr ⟨w.heap.size + 1, 8, _, rfl, by omega, hrow8, Nat.le_refl _, by unfold maxLen; omega, rfl, by simp only [infoEight, List.map_cons, List.map_nil, byteV_nat _ k1, byteV_nat _ k2, byteV_nat _ k3, byteV_nat _ k4]; rfl⟩⟩
  have hbw1 := hb.trans (hb1.mono hb.size)
  have hrow1 := (hb1.block w.heap.size hlt0).trans hrow
  have hlt1 : w.heap.size < w1.heap.size := Nat.lt_of_lt_of_le hlt0 hb1.size
  clear hrow8 hb1 hb hrow hsz0
  refine (rbytes_any ra 3 w1 (by omega) (by omega)).mono ?_
  rintro e w2 ⟨v, rfl, hv⟩
  obtain ⟨A2, c2, rfl, hs2, hA2, ho2, hb2⟩ := hv.parts
  have hbw2 := hbw1.trans (hb2.mono hbw1.size)
  have hrow2 := (hb2.block w.heap.size hlt1).trans hrow1
  have hlt2 := Nat.lt_of_lt_of_le hlt1 hb2.size
  have c4 : w2.cell? ⟨w.heap.size, 4, none⟩ = some (.int .i64 (bl : Int)) := by rw [cell_of_row _ _ _ _ _ _ hrow2]; rfl
  have ho1' := own_but ho1 (But.of_below (R := fun _ => False) hb2) (fun _ _ h => h)
  obtain ⟨M, hM⟩ : ∃ M, M = infoEight k ch bi sh ++ bytesLE ra 3 := ⟨_, rfl⟩
  have hMl : 8 + (bytesLE ra 3).length = M.length := by rw [hM, List.length_append]; rfl
  have hMv : (infoEight k ch bi sh).map byteV ++ (bytesLE ra 3).map byteV = M.map byteV := by rw [hM, List.map_append]
  have hM11 : M.length = 11 := by rw [← hMl, bytesLE_length]
  have HHD : Hid (infoHead k ch bi sh ra bl = M ++ bytesLE bl 4) := hid (by rw [hhd.out, hM])
  have HMl := hid hMl
  have HMv := hid hMv
  have HM := hid hM11
  clear hM hMl hMv hM11 ho1 hrow1 hb2 hv ho2 hbw1 hhd
  go_wp2_with (at_builtin; refine wpList_app rfl (.tmp 19) (.tmp 24) _ rfl elB rfl ho1' A2 (bytesLE ra 3).length c2 rfl _ hs2 (by simp) (byte_one _) M.length HMl.out (M.map byteV) HMv.out (by rw [HM.out]; unfold maxLen; omega) (by rw [HM.out]; omega) hlt2 ?_; intro A3 c3 w3 hown hgr hat hbel; have d4 : w3.cell? ⟨w.heap.size, 4, none⟩ = some (.int .i64 (bl : Int)) := (World.cell?_of_block (w := w2) (hbel.block w.heap.size (Nat.lt_succ_self _))).trans c4)
  have hbw3 := hbw2.trans (hbel.mono (Nat.le_succ _))
  have hlt3 := Nat.lt_of_lt_of_le hlt2 hbel.size
  clear ho1' hgr hat hs2 hA2 d4 c4 hrow2 HMl HMv hbel
  refine (rbytes_any bl 4 w3 (by omega) (by omega)).mono ?_
  rintro e w4 ⟨v, rfl, hv⟩
  obtain ⟨A4, c4, rfl, hs4, hA4, ho4, hb4⟩ := hv.parts
  have hbw4 := hbw3.trans (hb4.mono hbw3.size)
  have hlt4 := Nat.lt_of_lt_of_le hlt3 hb4.size
  have hown4 := own_but hown (But.of_below (R := fun _ => False) hb4) (fun _ _ h => h)
  obtain ⟨L, hL⟩ : ∃ L, L = infoHead k ch bi sh ra bl := ⟨_, rfl⟩
  have hL2 : L = M ++ bytesLE bl 4 := by rw [hL, HHD.out]
  have HLl : Hid (M.length + (bytesLE bl 4).length = L.length) := hid (by rw [hL2, List.length_append])
  have HLv : Hid (M.map byteV ++ (bytesLE bl 4).map byteV = L.map byteV) := hid (by rw [hL2, List.map_append])
  have HL15 : Hid (L.length = 15) := hid (by rw [← HLl.out, HM.out, bytesLE_length])
  have HL := hid hL
  have hlt5 : w.heap.size + 1 ≤ w4.heap.size := hlt4
  clear hL hL2 hown hv ho4 hb4 hA4
  go_wp2_with (at_builtin; refine wpList_app rfl (.tmp 26) (.tmp 30) _ rfl elB rfl hown4 A4 (bytesLE bl 4).length c4 rfl _ hs4 (by simp) (byte_one _) L.length HLl.out (L.map byteV) HLv.out (by rw [HL15.out]; unfold maxLen; omega) (by rw [HL15.out]; omega) hlt5 ?_; intro A5 c5 w5 hown5 hgr5 hat5 hbel5)
  have hbw5 := hbw4.trans (hbel5.mono (Nat.le_succ _))
  have hlt6 := Nat.lt_of_lt_of_le hlt5 hbel5.size
  have hs5 : SeesB w5 A5 L := own_sees hown5
  clear hown4 hgr5 hat5 hs4 HLl HLv hbel5
  have hsr := sumI_range L
  obtain ⟨S, hS⟩ := Int.eq_ofNat_of_zero_le hsr.1
  refine (rsum_any A5 c5 L w5 hs5 (by rw [HL15.out]; omega)).mono ?_
  rintro e w6 ⟨rfl, rfl⟩
  have HSE : Hid (sealed (infoHead k ch bi sh ra bl) = L ++ bytesLE S 4) := hid (by rw [← HL.out]; unfold sealed; rw [hS]; rfl)
  rw [hS] at hsr ⊢
  have hS4 : S < 4294967296 := by omega
  clear hS
  go_wp2_with fail
  refine (rbytes_any S 4 w5 (by omega) (by omega)).mono ?_
  rintro e w7 ⟨v, rfl, hv⟩
  obtain ⟨A7, c7, rfl, hs7, hA7, ho7, hb7⟩ := hv.parts
  have hbw7 := hbw5.trans (hb7.mono hbw5.size)
  have hlt7 := Nat.le_trans hlt6 hb7.size
  have hown7 := own_but hown5 (But.of_below (R := fun _ => False) hb7) (fun _ _ h => h)
  obtain ⟨Z, hZ⟩ : ∃ Z, Z = L ++ bytesLE S 4 := ⟨_, rfl⟩
  have HZl : Hid (L.length + (bytesLE S 4).length = Z.length) := hid (by rw [hZ, List.length_append])
  have HZv : Hid (L.map byteV ++ (bytesLE S 4).map byteV = Z.map byteV) := hid (by rw [hZ, List.map_append])
  have HZ19 : Hid (Z.length = 19) := hid (by rw [← HZl.out, HL15.out, bytesLE_length])
  have HZ : Hid (sealed (infoHead k ch bi sh ra bl) = Z) := hid (by rw [HSE.out, hZ])
  clear hZ HSE hown5 hv ho7 hb7 hA7 HL
  go_wp2_with (at_builtin; refine wpList_app rfl (.tmp 32) (.tmp 36) _ rfl elB rfl hown7 A7 (bytesLE S 4).length c7 rfl _ hs7 (by simp) (byte_one _) Z.length HZl.out (Z.map byteV) HZv.out (by rw [HZ19.out]; unfold maxLen; omega) (by rw [HZ19.out]; omega) hlt7 ?_; intro A8 c8 w8 hown8 hgr8 hat8 hbel8)
  have hf : ClonePost w (sealed (infoHead k ch bi sh ra bl)) (.returned (.slice A8 Z.length c8)) w8 := ⟨_, rfl, A8, c8, by rw [HZ.out], by rw [HZ.out]; exact Joins.ownsRow_le hown8 (Nat.le_succ _), hbw7.trans (hbel8.mono (Nat.le_succ _))⟩
  go_ret
  exact hf
end Go.Proofs.YtkmhmehofipehaaDoor
/- Info read. -/
namespace Go.Proofs.YtkmhmehofipehaaDoor
set_option linter.unusedVariables false
open Go.RowKit
set_option maxHeartbeats 1000000 in
theorem iget_nil (A : Option Addr) (n c : Nat) (w : World) :
    Calls Tryd.prog 57 #[.pointer none, .slice A n c] w fun e w' => e = .returned (.tuple #[.agg #[.int .i64 0, .int .i64 0, .int .i64 0, .int .i64 0, .int .i64 0, .int .i64 0], .int .i64 2]) ∧ Below w.heap.size w w' := by
  have hb : Below w.heap.size w (w.alloc (.cells #[.int .i64 0, .int .i64 0, .int .i64 0, .int .i64 0, .int .i64 0, .int .i64 0] 25)) := (Below.refl _ w).alloc (Nat.le_refl _) _
  go_enter Tryd.func57, Tryd.ntmps57
  go_wp2_with fail
  exact bodyPost_ret (results_row_tmp rfl _ _ w.heap.size _ _ _ _ rfl (heap_alloc_new _ _) Tryd.underlying25 rfl (by kernel_rfl)) rfl ⟨rfl, hb⟩
end Go.Proofs.YtkmhmehofipehaaDoor
/- Two infos compared. -/
namespace Go.Proofs.YtkmhmehofipehaaDoor
set_option linter.unusedVariables false
open Go.RowKit
def sameF (ch bi ra ch' bi' ra' : Int) : Bool := (ch == ch') && ((bi == bi') && (ra == ra'))
def sameI (k ch bi ra bl sh k' ch' bi' ra' bl' sh' : Int) : Bool := (k == k') && (sameF ch bi ra ch' bi' ra' && ((bl == bl') && (sh == sh')))
theorem eq_format (d : Nat) (ch bi ra ch' bi' ra' : Int) (w : World) :
    (Op.equalIn (d + 1 + 1) 23 (.agg #[.int .i64 ch, .int .i64 bi, .int .i64 ra]) (.agg #[.int .i64 ch', .int .i64 bi', .int .i64 ra'])).run Tryd.prog w = .ok (sameF ch bi ra ch' bi' ra') w := by
  have u3 := Tryd.underlying3
  have a3 := Tryd.isAgg3
  have z3 := Tryd.sizeOf3
  have hS : Tryd.prog.underlying 23 = some (.struct (Tryd.prog.fieldsOf 23)) := by kernel_rfl
  have hp : Tryd.prog.stoodInHeld 23 = false := by kernel_rfl
  rw [run_equalIn_agg w (d + 1) 23 _ _ hS hp]
  simp only [Program.fieldsOf, Tryd.underlying23]
  go_simp
  unfold sameF
  by_cases h1 : ch = ch' <;> by_cases h2 : bi = bi' <;> by_cases h3 : ra = ra' <;> simp [h1, h2, h3]
theorem eq_info (k ch bi ra bl sh k' ch' bi' ra' bl' sh' : Int) (w : World) :
    (Op.equalIn 10000 25 (.agg #[.int .i64 k, .int .i64 ch, .int .i64 bi, .int .i64 ra, .int .i64 bl, .int .i64 sh]) (.agg #[.int .i64 k', .int .i64 ch', .int .i64 bi', .int .i64 ra', .int .i64 bl', .int .i64 sh'])).run Tryd.prog w = .ok (sameI k ch bi ra bl sh k' ch' bi' ra' bl' sh') w := by
  have u3 := Tryd.underlying3
  have a3 := Tryd.isAgg3
  have z3 := Tryd.sizeOf3
  have a4 := Tryd.isAgg23
  have z4 := Tryd.sizeOf23
  have hS : Tryd.prog.underlying 25 = some (.struct (Tryd.prog.fieldsOf 25)) := by kernel_rfl
  have hp : Tryd.prog.stoodInHeld 25 = false := by kernel_rfl
  rw [show (10000 : Nat) = 9999 + 1 from rfl, run_equalIn_agg w 9999 25 _ _ hS hp]
  simp only [Program.fieldsOf, Tryd.underlying25]
  go_simp
  unfold sameI sameF
  by_cases h1 : k = k' <;> by_cases h2 : bl = bl' <;> by_cases h3 : sh = sh' <;> by_cases h4 : ch = ch' <;> by_cases h5 : bi = bi' <;> by_cases h6 : ra = ra' <;> simp [h1, h2, h3, h4, h5, h6]
end Go.Proofs.YtkmhmehofipehaaDoor
/- Info read: the program's Get. -/
namespace Go.Proofs.YtkmhmehofipehaaDoor
set_option linter.unusedVariables false
open Go.RowKit
/-- a field of the bytes of info -/
def fld (l : List UInt8) (p n : Nat) : Nat := valLE ((l.drop p).take n)
theorem fld_lt (l : List UInt8) (p n : Nat) : fld l p n < 256 ^ n := by
  have h1 := valLE_lt ((l.drop p).take n)
  have h2 : ((l.drop p).take n).length ≤ n := by simp; omega
  exact Nat.lt_of_lt_of_le h1 (Nat.pow_le_pow_right (by omega) h2)
theorem takeU_in (p n : Nat) (T : List UInt8) (h : p + n ≤ T.length) (hn : 1 ≤ n ∧ n ≤ 8) : takeU (0, p) T (n : Int) = ((0, p + n), (T.drop p).take n) := by
  unfold takeU tnext
  rw [if_neg (by simp), if_neg (by omega), Int.toNat_natCast, if_neg (by omega)]
def GetPost (w : World) (r : Int × Int × Int × Int × Int × Int × Int) (e : Ending) (w' : World) : Prop :=
  e = .returned (.tuple #[.agg #[.int .i64 r.2.1, .int .i64 r.2.2.1, .int .i64 r.2.2.2.1, .int .i64 r.2.2.2.2.1, .int .i64 r.2.2.2.2.2.1, .int .i64 r.2.2.2.2.2.2], .int .i64 r.1]) ∧ Below w.heap.size w w'
/-- the info that bytes of enough length say: kind, channels, bits, rate, block, shape -/
def saidI (l : List UInt8) : Int × Int × Int × Int × Int × Int := (fld l 4 1, fld l 5 1, fld l 6 1, fld l 8 3, fld l 11 4, fld l 7 1)
def getI (l : List UInt8) : Int × Int × Int × Int × Int × Int × Int :=
  if startsI l = false then (31, 0, 0, 0, 0, 0, 0) else if l.length < 19 then (10, 0, 0, 0, 0, 0, 0) else if sumI (l.take 15) ≠ (fld l 15 4 : Int) then (33, 0, 0, 0, 0, 0, 0)
  else if rightI (fld l 4 1) (fld l 5 1) (fld l 6 1) (fld l 8 3) (fld l 11 4) (fld l 7 1) = false then (32, 0, 0, 0, 0, 0, 0) else (0, saidI l)
set_option maxHeartbeats 2000000 in
theorem iget_kind (t : Nat) (A : Option Addr) (c : Nat) (l : List UInt8) (w : World) (hl : SeesB w A l) (hc : l.length ≤ c) (hs : startsI l = false) :
    Calls Tryd.prog 57 #[.pointer (some ⟨t, 0, none⟩), .slice A l.length c] w (GetPost w (31, 0, 0, 0, 0, 0, 0)) := by
  have hb : Below w.heap.size w (w.alloc (.cells #[.int .i64 0, .int .i64 0, .int .i64 0, .int .i64 0, .int .i64 0, .int .i64 0] 25)) := (Below.refl _ w).alloc (Nat.le_refl _) _
  have hrow := heap_alloc_new w (.cells #[.int .i64 0, .int .i64 0, .int .i64 0, .int .i64 0, .int .i64 0, .int .i64 0] 25)
  go_enter Tryd.func57, Tryd.ntmps57
  go_wp2_with fail
  generalize w.alloc (.cells #[.int .i64 0, .int .i64 0, .int .i64 0, .int .i64 0, .int .i64 0, .int .i64 0] 25) = w0 at *
  have hlt0 : w.heap.size < w0.heap.size := (Array.getElem?_eq_some_iff.1 hrow).1
  refine (starts_any A c l w0 (hl.below hb) hc).mono ?_
  rintro e w1 ⟨rfl, hb1⟩
  have hbw1 := hb.trans (hb1.mono hb.size)
  have hrow1 := (hb1.block w.heap.size hlt0).trans hrow
  have hlt1 := Nat.lt_of_lt_of_le hlt0 hb1.size
  rw [hs]
  have c0 : w1.cell? ⟨w.heap.size, 0, none⟩ = some (.int .i64 0) := by rw [cell_of_row _ _ _ _ _ _ hrow1]; rfl
  have f0 : w1.frozen? ⟨w.heap.size, 0, none⟩ = false := frozen_of_row _ _ _ _ _ hrow1
  have c1 : w1.cell? ⟨w.heap.size, 1, none⟩ = some (.int .i64 0) := by rw [cell_of_row _ _ _ _ _ _ hrow1]; rfl
  have f1 : w1.frozen? ⟨w.heap.size, 1, none⟩ = false := frozen_of_row _ _ _ _ _ hrow1
  have c2 : w1.cell? ⟨w.heap.size, 2, none⟩ = some (.int .i64 0) := by rw [cell_of_row _ _ _ _ _ _ hrow1]; rfl
  have f2 : w1.frozen? ⟨w.heap.size, 2, none⟩ = false := frozen_of_row _ _ _ _ _ hrow1
  have c3 : w1.cell? ⟨w.heap.size, 3, none⟩ = some (.int .i64 0) := by rw [cell_of_row _ _ _ _ _ _ hrow1]; rfl
  have f3 : w1.frozen? ⟨w.heap.size, 3, none⟩ = false := frozen_of_row _ _ _ _ _ hrow1
  have c4 : w1.cell? ⟨w.heap.size, 4, none⟩ = some (.int .i64 0) := by rw [cell_of_row _ _ _ _ _ _ hrow1]; rfl
  have f4 : w1.frozen? ⟨w.heap.size, 4, none⟩ = false := frozen_of_row _ _ _ _ _ hrow1
  have c5 : w1.cell? ⟨w.heap.size, 5, none⟩ = some (.int .i64 0) := by rw [cell_of_row _ _ _ _ _ _ hrow1]; rfl
  have f5 : w1.frozen? ⟨w.heap.size, 5, none⟩ = false := frozen_of_row _ _ _ _ _ hrow1
  clear hb hb1 hrow
  go_wp2_with fail
  have r0 := fun v => heap_setCell_same _ w.heap.size 0 _ _ v hrow1
  have b0 := fun v => Below.setCell hbw1 (p := ⟨w.heap.size, 0, none⟩) (Nat.le_refl _) v
  have r1 := fun v => heap_setCell_same _ w.heap.size 1 _ _ v (r0 (.int .i64 0))
  have b1 := fun v => Below.setCell (b0 (.int .i64 0)) (p := ⟨w.heap.size, 1, none⟩) (Nat.le_refl _) v
  have r2 := fun v => heap_setCell_same _ w.heap.size 2 _ _ v (r1 (.int .i64 0))
  have b2 := fun v => Below.setCell (b1 (.int .i64 0)) (p := ⟨w.heap.size, 2, none⟩) (Nat.le_refl _) v
  have r3 := fun v => heap_setCell_same _ w.heap.size 3 _ _ v (r2 (.int .i64 0))
  have b3 := fun v => Below.setCell (b2 (.int .i64 0)) (p := ⟨w.heap.size, 3, none⟩) (Nat.le_refl _) v
  have r4 := fun v => heap_setCell_same _ w.heap.size 4 _ _ v (r3 (.int .i64 0))
  have b4 := fun v => Below.setCell (b3 (.int .i64 0)) (p := ⟨w.heap.size, 4, none⟩) (Nat.le_refl _) v
  have r5 := fun v => heap_setCell_same _ w.heap.size 5 _ _ v (r4 (.int .i64 0))
  have b5 := fun v => Below.setCell (b4 (.int .i64 0)) (p := ⟨w.heap.size, 5, none⟩) (Nat.le_refl _) v
  exact bodyPost_ret (results_row_tmp rfl _ _ w.heap.size _ _ _ _ rfl (r5 (.int .i64 0)) Tryd.underlying25 rfl (by kernel_rfl)) rfl ⟨rfl, (b5 (.int .i64 0))⟩
set_option maxHeartbeats 2000000 in
theorem iget_end (t : Nat) (A : Option Addr) (c : Nat) (l : List UInt8) (w : World) (hl : SeesB w A l) (hc : l.length ≤ c) (hs : startsI l = true) (hn : l.length < 19) :
    Calls Tryd.prog 57 #[.pointer (some ⟨t, 0, none⟩), .slice A l.length c] w (GetPost w (10, 0, 0, 0, 0, 0, 0)) := by
  have d1 : decide ((l.length : Int) < 19) = true := by simp; omega
  have hb : Below w.heap.size w (w.alloc (.cells #[.int .i64 0, .int .i64 0, .int .i64 0, .int .i64 0, .int .i64 0, .int .i64 0] 25)) := (Below.refl _ w).alloc (Nat.le_refl _) _
  have hrow := heap_alloc_new w (.cells #[.int .i64 0, .int .i64 0, .int .i64 0, .int .i64 0, .int .i64 0, .int .i64 0] 25)
  go_enter Tryd.func57, Tryd.ntmps57
  go_wp2_with fail
  generalize w.alloc (.cells #[.int .i64 0, .int .i64 0, .int .i64 0, .int .i64 0, .int .i64 0, .int .i64 0] 25) = w0 at *
  have hlt0 : w.heap.size < w0.heap.size := (Array.getElem?_eq_some_iff.1 hrow).1
  refine (starts_any A c l w0 (hl.below hb) hc).mono ?_
  rintro e w1 ⟨rfl, hb1⟩
  have hbw1 := hb.trans (hb1.mono hb.size)
  have hrow1 := (hb1.block w.heap.size hlt0).trans hrow
  have hlt1 := Nat.lt_of_lt_of_le hlt0 hb1.size
  rw [hs]
  have c0 : w1.cell? ⟨w.heap.size, 0, none⟩ = some (.int .i64 0) := by rw [cell_of_row _ _ _ _ _ _ hrow1]; rfl
  have f0 : w1.frozen? ⟨w.heap.size, 0, none⟩ = false := frozen_of_row _ _ _ _ _ hrow1
  have c1 : w1.cell? ⟨w.heap.size, 1, none⟩ = some (.int .i64 0) := by rw [cell_of_row _ _ _ _ _ _ hrow1]; rfl
  have f1 : w1.frozen? ⟨w.heap.size, 1, none⟩ = false := frozen_of_row _ _ _ _ _ hrow1
  have c2 : w1.cell? ⟨w.heap.size, 2, none⟩ = some (.int .i64 0) := by rw [cell_of_row _ _ _ _ _ _ hrow1]; rfl
  have f2 : w1.frozen? ⟨w.heap.size, 2, none⟩ = false := frozen_of_row _ _ _ _ _ hrow1
  have c3 : w1.cell? ⟨w.heap.size, 3, none⟩ = some (.int .i64 0) := by rw [cell_of_row _ _ _ _ _ _ hrow1]; rfl
  have f3 : w1.frozen? ⟨w.heap.size, 3, none⟩ = false := frozen_of_row _ _ _ _ _ hrow1
  have c4 : w1.cell? ⟨w.heap.size, 4, none⟩ = some (.int .i64 0) := by rw [cell_of_row _ _ _ _ _ _ hrow1]; rfl
  have f4 : w1.frozen? ⟨w.heap.size, 4, none⟩ = false := frozen_of_row _ _ _ _ _ hrow1
  have c5 : w1.cell? ⟨w.heap.size, 5, none⟩ = some (.int .i64 0) := by rw [cell_of_row _ _ _ _ _ _ hrow1]; rfl
  have f5 : w1.frozen? ⟨w.heap.size, 5, none⟩ = false := frozen_of_row _ _ _ _ _ hrow1
  clear hb hb1 hrow
  go_wp2_with fail
  have r0 := fun v => heap_setCell_same _ w.heap.size 0 _ _ v hrow1
  have b0 := fun v => Below.setCell hbw1 (p := ⟨w.heap.size, 0, none⟩) (Nat.le_refl _) v
  have r1 := fun v => heap_setCell_same _ w.heap.size 1 _ _ v (r0 (.int .i64 0))
  have b1 := fun v => Below.setCell (b0 (.int .i64 0)) (p := ⟨w.heap.size, 1, none⟩) (Nat.le_refl _) v
  have r2 := fun v => heap_setCell_same _ w.heap.size 2 _ _ v (r1 (.int .i64 0))
  have b2 := fun v => Below.setCell (b1 (.int .i64 0)) (p := ⟨w.heap.size, 2, none⟩) (Nat.le_refl _) v
  have r3 := fun v => heap_setCell_same _ w.heap.size 3 _ _ v (r2 (.int .i64 0))
  have b3 := fun v => Below.setCell (b2 (.int .i64 0)) (p := ⟨w.heap.size, 3, none⟩) (Nat.le_refl _) v
  have r4 := fun v => heap_setCell_same _ w.heap.size 4 _ _ v (r3 (.int .i64 0))
  have b4 := fun v => Below.setCell (b3 (.int .i64 0)) (p := ⟨w.heap.size, 4, none⟩) (Nat.le_refl _) v
  have r5 := fun v => heap_setCell_same _ w.heap.size 5 _ _ v (r4 (.int .i64 0))
  have b5 := fun v => Below.setCell (b4 (.int .i64 0)) (p := ⟨w.heap.size, 5, none⟩) (Nat.le_refl _) v
  exact bodyPost_ret (results_row_tmp rfl _ _ w.heap.size _ _ _ _ rfl (r5 (.int .i64 0)) Tryd.underlying25 rfl (by kernel_rfl)) rfl ⟨rfl, (b5 (.int .i64 0))⟩
theorem keepBut {g : Nat} {w w' : World} {r i : Nat} {v : Value} (hb : But (Only g) w w') (hne : r ≠ g) (h : w.cell? ⟨r, i, none⟩ = some v) : w'.cell? ⟨r, i, none⟩ = some v :=
  (World.cell?_of_block (w := w) (hb.block _ (block_lt_of_cell h) hne)).trans h
theorem undrewB {R : Nat → Prop} {w w' : World} (h : But R w.drew w') : But R w w' := ⟨h.os, h.tape, h.output, h.size, h.block⟩
theorem Tab.but {w w' : World} {t g : Nat} (h : Tab w t) (hb : But (Only g) w w') (hne : t ≠ g) : Tab w' t := by
  obtain ⟨cs, hcs, hx⟩ := h
  exact ⟨cs, (hb.block t (Array.getElem?_eq_some_iff.1 hcs).1 hne).trans hcs, hx⟩
theorem fldI_t (l : List UInt8) (p n : Nat) (h : p + n ≤ 15) : fld ((l.drop 4).take 15) p n = fld l (4 + p) n := by
  unfold fld
  rw [List.drop_take, List.take_take, List.drop_drop, Nat.min_eq_left (by omega)]
theorem Tk.setOther {w : World} {g r : Nat} {err : Int} {p : Nat} {l : List UInt8} {cs : Array Value} {t : TypeId} {fr : Nat × Nat} (h : Tk w g err p l) (hl : l ≠ []) (hr : w.heap[r]? = some (.cells cs t fr)) (hcs : ∀ (j : Nat) (v : Value), cs[j]? = some v → ∃ z, v = .int .i64 z) (hne : r ≠ g) (j : Nat) (v : Value) : Tk (w.setCell ⟨r, j, none⟩ v) g err p l := by
  obtain ⟨A, c, hg, hs, h1, h2, h3, h4⟩ := h
  refine ⟨A, c, (heap_setCell_other w ⟨r, j, none⟩ g v (fun h => hne h.symm)).trans hg, ?_, h1, h2, h3, h4⟩
  intro i u hu
  obtain ⟨a, ha, hc⟩ := hs i u hu
  refine ⟨a, ha, (World.cell?_of_block (w := w) ?_).trans hc⟩
  refine heap_setCell_other w ⟨r, j, none⟩ _ v ?_
  rw [addr_block]
  intro hb
  have hb' : a.block = r := hb
  have hcc := hc
  unfold World.cell? at hcc
  rw [addr_block, hb', hr] at hcc
  have hcc2 : cs[(a.add i).off]? = some u := by
    dsimp only at hcc
    split at hcc
    · cases hcc
    · exact hcc
  obtain ⟨z, hz⟩ := hcs _ _ hcc2
  rw [hz, List.getElem?_map] at hu
  cases h5 : l[i]? with
  | none => rw [h5] at hu; cases hu
  | some b => rw [h5] at hu; simp [byteV] at hu
def rowK (T : List UInt8) : Nat → Array Value
  | 0 => #[.int .i64 0, .int .i64 0, .int .i64 0, .int .i64 0]
  | 1 => #[.int .i64 (fld T 0 1 : Nat), .int .i64 0, .int .i64 0, .int .i64 0]
  | 2 => #[.int .i64 (fld T 0 1 : Nat), .int .i64 (fld T 1 1 : Nat), .int .i64 0, .int .i64 0]
  | 3 => #[.int .i64 (fld T 0 1 : Nat), .int .i64 (fld T 1 1 : Nat), .int .i64 (fld T 2 1 : Nat), .int .i64 0]
  | _ => #[.int .i64 (fld T 0 1 : Nat), .int .i64 (fld T 1 1 : Nat), .int .i64 (fld T 2 1 : Nat), .int .i64 (fld T 3 1 : Nat)]
theorem rowK_int (T : List UInt8) (n : Nat) : ∀ (j : Nat) (v : Value), (rowK T n)[j]? = some v → ∃ z, v = .int .i64 z := by
  intro j v h
  have h2 := Array.mem_of_getElem? h
  have key : ∀ (x y z u : Int), v ∈ (#[.int .i64 x, .int .i64 y, .int .i64 z, .int .i64 u] : Array Value) → ∃ t, v = .int .i64 t := by
    intro x y z u hm
    simp at hm
    rcases hm with h | h | h | h <;> exact ⟨_, h⟩
  match n, h2 with
  | 0, h2 => exact key _ _ _ _ h2
  | 1, h2 => exact key _ _ _ _ h2
  | 2, h2 => exact key _ _ _ _ h2
  | 3, h2 => exact key _ _ _ _ h2
  | n + 4, h2 => exact key _ _ _ _ h2
set_option maxHeartbeats 4000000 in
theorem iget_long (t : Nat) (A : Option Addr) (c : Nat) (l : List UInt8) (w : World) (ht : Tab w t) (hl : SeesB w A l) (hc : l.length ≤ c) (hcm : c ≤ maxLen) (hs : startsI l = true) (hn : 19 ≤ l.length) :
    Calls Tryd.prog 57 #[.pointer (some ⟨t, 0, none⟩), .slice A l.length c] w (GetPost w (getI l)) := by
  have d1 : decide ((l.length : Int) < 19) = false := by simp; omega
  have htl := ht.lt
  obtain ⟨R, hR⟩ : ∃ R, R = getI l := ⟨_, rfl⟩
  rw [← hR]
  have HR := hid hR
  clear hR
  obtain ⟨a, rfl, _⟩ := hl.at (show 0 < l.length by omega)
  have g1 : (4 : Int) ≤ 19 := by omega
  have g2 : (19 : Int) ≤ c := by omega
  have g3 : (15 : Int) ≤ c := by omega
  obtain ⟨T, hT⟩ : ∃ T, T = (l.drop 4).take 15 := ⟨_, rfl⟩
  have hTl : T.length = 15 := by rw [hT]; simp; omega
  have hb : Below w.heap.size w (w.alloc (.cells #[.int .i64 0, .int .i64 0, .int .i64 0, .int .i64 0, .int .i64 0, .int .i64 0] 25)) := (Below.refl _ w).alloc (Nat.le_refl _) _
  have hrow := heap_alloc_new w (.cells #[.int .i64 0, .int .i64 0, .int .i64 0, .int .i64 0, .int .i64 0, .int .i64 0] 25)
  go_enter Tryd.func57, Tryd.ntmps57
  go_wp2_with fail
  generalize w.alloc (.cells #[.int .i64 0, .int .i64 0, .int .i64 0, .int .i64 0, .int .i64 0, .int .i64 0] 25) = w0 at *
  have hlt0 : w.heap.size < w0.heap.size := (Array.getElem?_eq_some_iff.1 hrow).1
  refine (starts_any (some a) c l w0 (hl.below hb) hc).mono ?_
  rintro e w1 ⟨rfl, hb1⟩
  have hbw1 := hb.trans (hb1.mono hb.size)
  have hrow1 := (hb1.block w.heap.size hlt0).trans hrow
  have hlt1 := Nat.lt_of_lt_of_le hlt0 hb1.size
  rw [hs]
  have hl1 := hl.below hbw1
  have hsT : SeesB w1 (some (a.add 4)) T := by rw [hT]; exact hl1.cutTo 4 15
  clear hb hb1 hrow
  have htake := take_any (some { block := a.block, off := a.off + 4 }) (c - 4) T w1 hsT (by omega)
  rw [hTl] at htake
  have HTK := hid htake
  clear htake
  go_wp2_with fail
  refine HTK.out.mono ?_
  rintro e w2 ⟨g, rfl, hg, hTk, hb2⟩
  have hbw2 := hbw1.trans (hb2.mono hbw1.size)
  have hrow2 := (hb2.block w.heap.size hlt1).trans hrow1
  have hlt2 := Nat.lt_of_lt_of_le hlt1 hb2.size
  have hglt : g < w2.heap.size := by obtain ⟨_, _, hg0, _⟩ := hTk; exact (Array.getElem?_eq_some_iff.1 hg0).1
  have hb3 : Below w2.heap.size w2 (w2.alloc (.cells #[.int .i64 0, .int .i64 0, .int .i64 0, .int .i64 0] 127)) := (Below.refl _ _).alloc (Nat.le_refl _) _
  have har := heap_alloc_new w2 (.cells #[.int .i64 0, .int .i64 0, .int .i64 0, .int .i64 0] 127)
  have hrow3 := (hb3.block w.heap.size hlt2).trans hrow2
  have hTk3 := hTk.below hb3
  have hbw3 := hbw2.trans (hb3.mono hbw2.size)
  have hwg : w.heap.size < g := Nat.lt_of_lt_of_le hlt1 hg
  go_wp2_with fail
  clear hb2 hrow1 hb3 hTk hrow2 HTK hsT hbw2
  generalize w2.alloc (.cells #[.int .i64 0, .int .i64 0, .int .i64 0, .int .i64 0] 127) = w3 at *
  go_loopw [8, 29] (fun x i wr => ∃ n : Nat, n ≤ 4 ∧ i = .int .i64 n ∧ Tk wr g 0 n T ∧ wr.heap[w2.heap.size]? = some (.cells (rowK T n) 127 (0, 0)) ∧ wr.heap[w.heap.size]? = some (.cells #[.int .i64 0, .int .i64 0, .int .i64 0, .int .i64 0, .int .i64 0, .int .i64 0] 25 (0, 0)) ∧ Below w.heap.size w wr) (fun _ i _ => 4 - (intOf i).toNat)
  case atStart => exact ⟨0, by omega, rfl, hTk3, har, hrow3, hbw3⟩
  case round =>
    clear hTk3 har hrow3 hbw3
    obtain ⟨n, hn, rfl, hT, har, hrow, hbw⟩ := hrel
    by_cases hlt : n < 4
    · have hcase : n = 0 ∨ n = 1 ∨ n = 2 ∨ n = 3 := by omega
      rcases hcase with hh | hh | hh | hh
      · subst hh
        have hu := takerU_any g 0 0 1 T wr hT (by omega)
        rw [show takeU (0, 0) T 1 = ((0, 1), (T.drop 0).take 1) from takeU_in 0 1 T (by omega) (by omega)] at hu
        unfold UPost at hu
        have HU := hid hu
        clear hu
        have hv := fld_lt T 0 1
        rw [show valLE ((T.drop 0).take 1) = fld T 0 1 from rfl] at HU
        obtain ⟨y, hy⟩ : ∃ y, y = fld T 0 1 := ⟨_, rfl⟩
        rw [← hy] at hv HU
        have HY := hid hy
        clear hy
        go_wp2_with fail
        refine HU.out.mono ?_
        rintro e w4 ⟨rfl, hT4, hB4⟩
        have har4 := (hB4.block w2.heap.size (Array.getElem?_eq_some_iff.1 har).1 (fun h => by have h2 : w2.heap.size = g := h; omega)).trans har
        have hrow4 := (hB4.block w.heap.size (Array.getElem?_eq_some_iff.1 hrow).1 (fun h => by have h2 : w.heap.size = g := h; omega)).trans hrow
        have hbw4 := But.below hbw hB4 (fun b h => by have h2 : b = g := h; omega) hbw.size
        have k0 : w4.cell? ⟨w2.heap.size, 0, none⟩ = some (.int .i64 0) := by rw [cell_of_row _ _ _ _ _ _ har4]; rfl
        have k1 : w4.frozen? ⟨w2.heap.size, 0, none⟩ = false := frozen_of_row _ _ _ _ _ har4
        have hy8 : (y : Int) < 9223372036854775808 := by omega
        go_wp2_with fail
        refine ⟨⟨1, by omega, by go_num, ?_, ?_, ?_, ?_⟩, by simp [intOf]⟩
        · exact hT4.setOther (by intro h; rw [h] at hTl; cases hTl) har4 (rowK_int T 0) (by omega) _ _
        · refine (heap_setCell_same _ _ _ _ _ _ har4).trans ?_
          rw [HY.out]; rfl
        · exact (heap_setCell_other w4 ⟨w2.heap.size, 0, none⟩ w.heap.size _ (by show w.heap.size ≠ w2.heap.size; omega)).trans hrow4
        · exact hbw4.setCell (by show w.heap.size ≤ w2.heap.size; omega) _
      · subst hh
        have hu := takerU_any g 0 1 1 T wr hT (by omega)
        rw [show takeU (0, 1) T 1 = ((0, 2), (T.drop 1).take 1) from takeU_in 1 1 T (by omega) (by omega)] at hu
        unfold UPost at hu
        have HU := hid hu
        clear hu
        have hv := fld_lt T 1 1
        rw [show valLE ((T.drop 1).take 1) = fld T 1 1 from rfl] at HU
        obtain ⟨y, hy⟩ : ∃ y, y = fld T 1 1 := ⟨_, rfl⟩
        rw [← hy] at hv HU
        have HY := hid hy
        clear hy
        go_wp2_with fail
        refine HU.out.mono ?_
        rintro e w4 ⟨rfl, hT4, hB4⟩
        have har4 := (hB4.block w2.heap.size (Array.getElem?_eq_some_iff.1 har).1 (fun h => by have h2 : w2.heap.size = g := h; omega)).trans har
        have hrow4 := (hB4.block w.heap.size (Array.getElem?_eq_some_iff.1 hrow).1 (fun h => by have h2 : w.heap.size = g := h; omega)).trans hrow
        have hbw4 := But.below hbw hB4 (fun b h => by have h2 : b = g := h; omega) hbw.size
        have k0 : w4.cell? ⟨w2.heap.size, 1, none⟩ = some (.int .i64 0) := by rw [cell_of_row _ _ _ _ _ _ har4]; rfl
        have k1 : w4.frozen? ⟨w2.heap.size, 1, none⟩ = false := frozen_of_row _ _ _ _ _ har4
        have hy8 : (y : Int) < 9223372036854775808 := by omega
        go_wp2_with fail
        refine ⟨⟨2, by omega, by go_num, ?_, ?_, ?_, ?_⟩, by simp [intOf]⟩
        · exact hT4.setOther (by intro h; rw [h] at hTl; cases hTl) har4 (rowK_int T 1) (by omega) _ _
        · refine (heap_setCell_same _ _ _ _ _ _ har4).trans ?_
          rw [HY.out]; rfl
        · exact (heap_setCell_other w4 ⟨w2.heap.size, 1, none⟩ w.heap.size _ (by show w.heap.size ≠ w2.heap.size; omega)).trans hrow4
        · exact hbw4.setCell (by show w.heap.size ≤ w2.heap.size; omega) _
      · subst hh
        have hu := takerU_any g 0 2 1 T wr hT (by omega)
        rw [show takeU (0, 2) T 1 = ((0, 3), (T.drop 2).take 1) from takeU_in 2 1 T (by omega) (by omega)] at hu
        unfold UPost at hu
        have HU := hid hu
        clear hu
        have hv := fld_lt T 2 1
        rw [show valLE ((T.drop 2).take 1) = fld T 2 1 from rfl] at HU
        obtain ⟨y, hy⟩ : ∃ y, y = fld T 2 1 := ⟨_, rfl⟩
        rw [← hy] at hv HU
        have HY := hid hy
        clear hy
        go_wp2_with fail
        refine HU.out.mono ?_
        rintro e w4 ⟨rfl, hT4, hB4⟩
        have har4 := (hB4.block w2.heap.size (Array.getElem?_eq_some_iff.1 har).1 (fun h => by have h2 : w2.heap.size = g := h; omega)).trans har
        have hrow4 := (hB4.block w.heap.size (Array.getElem?_eq_some_iff.1 hrow).1 (fun h => by have h2 : w.heap.size = g := h; omega)).trans hrow
        have hbw4 := But.below hbw hB4 (fun b h => by have h2 : b = g := h; omega) hbw.size
        have k0 : w4.cell? ⟨w2.heap.size, 2, none⟩ = some (.int .i64 0) := by rw [cell_of_row _ _ _ _ _ _ har4]; rfl
        have k1 : w4.frozen? ⟨w2.heap.size, 2, none⟩ = false := frozen_of_row _ _ _ _ _ har4
        have hy8 : (y : Int) < 9223372036854775808 := by omega
        go_wp2_with fail
        refine ⟨⟨3, by omega, by go_num, ?_, ?_, ?_, ?_⟩, by simp [intOf]⟩
        · exact hT4.setOther (by intro h; rw [h] at hTl; cases hTl) har4 (rowK_int T 2) (by omega) _ _
        · refine (heap_setCell_same _ _ _ _ _ _ har4).trans ?_
          rw [HY.out]; rfl
        · exact (heap_setCell_other w4 ⟨w2.heap.size, 2, none⟩ w.heap.size _ (by show w.heap.size ≠ w2.heap.size; omega)).trans hrow4
        · exact hbw4.setCell (by show w.heap.size ≤ w2.heap.size; omega) _
      · subst hh
        have hu := takerU_any g 0 3 1 T wr hT (by omega)
        rw [show takeU (0, 3) T 1 = ((0, 4), (T.drop 3).take 1) from takeU_in 3 1 T (by omega) (by omega)] at hu
        unfold UPost at hu
        have HU := hid hu
        clear hu
        have hv := fld_lt T 3 1
        rw [show valLE ((T.drop 3).take 1) = fld T 3 1 from rfl] at HU
        obtain ⟨y, hy⟩ : ∃ y, y = fld T 3 1 := ⟨_, rfl⟩
        rw [← hy] at hv HU
        have HY := hid hy
        clear hy
        go_wp2_with fail
        refine HU.out.mono ?_
        rintro e w4 ⟨rfl, hT4, hB4⟩
        have har4 := (hB4.block w2.heap.size (Array.getElem?_eq_some_iff.1 har).1 (fun h => by have h2 : w2.heap.size = g := h; omega)).trans har
        have hrow4 := (hB4.block w.heap.size (Array.getElem?_eq_some_iff.1 hrow).1 (fun h => by have h2 : w.heap.size = g := h; omega)).trans hrow
        have hbw4 := But.below hbw hB4 (fun b h => by have h2 : b = g := h; omega) hbw.size
        have k0 : w4.cell? ⟨w2.heap.size, 3, none⟩ = some (.int .i64 0) := by rw [cell_of_row _ _ _ _ _ _ har4]; rfl
        have k1 : w4.frozen? ⟨w2.heap.size, 3, none⟩ = false := frozen_of_row _ _ _ _ _ har4
        have hy8 : (y : Int) < 9223372036854775808 := by omega
        go_wp2_with fail
        refine ⟨⟨4, by omega, by go_num, ?_, ?_, ?_, ?_⟩, by simp [intOf]⟩
        · exact hT4.setOther (by intro h; rw [h] at hTl; cases hTl) har4 (rowK_int T 3) (by omega) _ _
        · refine (heap_setCell_same _ _ _ _ _ _ har4).trans ?_
          rw [HY.out]; rfl
        · exact (heap_setCell_other w4 ⟨w2.heap.size, 3, none⟩ w.heap.size _ (by show w.heap.size ≠ w2.heap.size; omega)).trans hrow4
        · exact hbw4.setCell (by show w.heap.size ≤ w2.heap.size; omega) _
    · have hn4 : n = 4 := by omega
      have hd4 : decide ((n : Int) < 4) = false := by simp; omega
      rw [hn4] at hT har
      have HN4 := hid hn4
      clear hn4 hn hlt
      rw [show rowK T 4 = #[.int .i64 (fld T 0 1 : Nat), .int .i64 (fld T 1 1 : Nat), .int .i64 (fld T 2 1 : Nat), .int .i64 (fld T 3 1 : Nat)] from rfl] at har
      have hu3 := takerU_any g 0 4 3 T wr hT (by omega)
      rw [show takeU (0, 4) T 3 = ((0, 7), (T.drop 4).take 3) from takeU_in 4 3 T (by omega) (by omega)] at hu3
      unfold UPost at hu3
      rw [show valLE ((T.drop 4).take 3) = fld T 4 3 from rfl] at hu3
      have HU3 := hid hu3
      clear hu3
      have v3 := fld_lt T 4 3
      have v4 := fld_lt T 7 4
      obtain ⟨ra, hra⟩ : ∃ y, y = fld T 4 3 := ⟨_, rfl⟩
      obtain ⟨bl, hbl⟩ : ∃ y, y = fld T 7 4 := ⟨_, rfl⟩
      rw [← hra] at v3 HU3
      rw [← hbl] at v4
      have HRA := hid hra
      have HBL := hid hbl
      clear hra hbl
      go_wp2_with fail
      refine HU3.out.mono ?_
      rintro e w4 ⟨rfl, hT4, hB4⟩
      have har4 := (hB4.block w2.heap.size (Array.getElem?_eq_some_iff.1 har).1 (fun h => by have h2 : w2.heap.size = g := h; omega)).trans har
      have hrow4 := (hB4.block w.heap.size (Array.getElem?_eq_some_iff.1 hrow).1 (fun h => by have h2 : w.heap.size = g := h; omega)).trans hrow
      have hbw4 := But.below hbw hB4 (fun b h => by have h2 : b = g := h; omega) hbw.size
      have hu4 := takerU_any g 0 7 4 T w4 hT4 (by omega)
      rw [show takeU (0, 7) T 4 = ((0, 11), (T.drop 7).take 4) from takeU_in 7 4 T (by omega) (by omega)] at hu4
      unfold UPost at hu4
      rw [show valLE ((T.drop 7).take 4) = fld T 7 4 from rfl, ← HBL.out] at hu4
      have HU4 := hid hu4
      clear hu4 hT hB4 har hrow hbw HU3
      go_wp2_with fail
      refine HU4.out.mono ?_
      rintro e w5 ⟨rfl, hT5, hB5⟩
      have har5 := (hB5.block w2.heap.size (Array.getElem?_eq_some_iff.1 har4).1 (fun h => by have h2 : w2.heap.size = g := h; omega)).trans har4
      have hrow5 := (hB5.block w.heap.size (Array.getElem?_eq_some_iff.1 hrow4).1 (fun h => by have h2 : w.heap.size = g := h; omega)).trans hrow4
      have hbw5 := But.below hbw4 hB5 (fun b h => by have h2 : b = g := h; omega) hbw4.size
      clear hT4 har4 hrow4 hbw4 HU4
      have k0 : w5.cell? ⟨w2.heap.size, 0, none⟩ = some (.int .i64 (fld T 0 1 : Nat)) := by rw [cell_of_row _ _ _ _ _ _ har5]; rfl
      have k1 : w5.cell? ⟨w2.heap.size, 1, none⟩ = some (.int .i64 (fld T 1 1 : Nat)) := by rw [cell_of_row _ _ _ _ _ _ har5]; rfl
      have k2 : w5.cell? ⟨w2.heap.size, 2, none⟩ = some (.int .i64 (fld T 2 1 : Nat)) := by rw [cell_of_row _ _ _ _ _ _ har5]; rfl
      have k3 : w5.cell? ⟨w2.heap.size, 3, none⟩ = some (.int .i64 (fld T 3 1 : Nat)) := by rw [cell_of_row _ _ _ _ _ _ har5]; rfl
      generalize hgkk : fld T 0 1 = kk at *
      have HGkk := hid hgkk
      clear hgkk
      generalize hgch : fld T 1 1 = ch at *
      have HGch := hid hgch
      clear hgch
      generalize hgbi : fld T 2 1 = bi at *
      have HGbi := hid hgbi
      clear hgbi
      generalize hgsh : fld T 3 1 = sh at *
      have HGsh := hid hgsh
      clear hgsh
      go_wp2_with fail
      have hgw5 : g < w5.heap.size := by obtain ⟨_, _, hg0, _⟩ := hT5; exact (Array.getElem?_eq_some_iff.1 hg0).1
      have hgn : w5.heap.size ≠ g := by omega
      have htg : t ≠ g := by omega
      have hab : a.block < w.heap.size := by
        obtain ⟨a', ha', hc'⟩ := hl.at (show 0 < l.length by omega)
        injection ha' with ha'
        subst ha'
        have := block_lt_of_cell hc'
        rwa [addr_block] at this
      have hao : Off (Only g) (some a) := fun b hb h => by
        injection hb with hb
        subst hb
        have h2 : a.block = g := h
        omega
      have hb6 : Below w5.heap.size w5 (w5.alloc (.cells #[.int .i64 (kk : Int), .int .i64 (ch : Int), .int .i64 (bi : Int), .int .i64 (ra : Int), .int .i64 (bl : Int), .int .i64 (sh : Int)] 25)) := (Below.refl _ _).alloc (Nat.le_refl _) _
      have hci := heap_alloc_new w5 (.cells #[.int .i64 (kk : Int), .int .i64 (ch : Int), .int .i64 (bi : Int), .int .i64 (ra : Int), .int .i64 (bl : Int), .int .i64 (sh : Int)] 25)
      have hT6 := hT5.below hb6
      have hrow6 := (hb6.block w.heap.size (Array.getElem?_eq_some_iff.1 hrow5).1).trans hrow5
      have hbw6 := hbw5.trans (hb6.mono hbw5.size)
      have ht6 := ht.keep hbw6 htl
      have hl6 : SeesB (w5.alloc (.cells #[.int .i64 (kk : Int), .int .i64 (ch : Int), .int .i64 (bi : Int), .int .i64 (ra : Int), .int .i64 (bl : Int), .int .i64 (sh : Int)] 25)) (some a) (l.take 15) := by unfold SeesB; rw [List.map_take]; exact Sees.take (hl.below hbw6) 15
      clear hb6 hrow5 hbw5 hT5 hB5 har5 k0 k1 k2 k3
      generalize w5.alloc (.cells #[.int .i64 (kk : Int), .int .i64 (ch : Int), .int .i64 (bi : Int), .int .i64 (ra : Int), .int .i64 (bl : Int), .int .i64 (sh : Int)] 25) = w6 at *
      have q0 : w6.cell? ⟨w5.heap.size, 0, none⟩ = some (.int .i64 (kk : Int)) := by rw [cell_of_row _ _ _ _ _ _ hci]; rfl
      have q1 : w6.cell? ⟨w5.heap.size, 1, none⟩ = some (.int .i64 (ch : Int)) := by rw [cell_of_row _ _ _ _ _ _ hci]; rfl
      have q2 : w6.cell? ⟨w5.heap.size, 2, none⟩ = some (.int .i64 (bi : Int)) := by rw [cell_of_row _ _ _ _ _ _ hci]; rfl
      have q3 : w6.cell? ⟨w5.heap.size, 3, none⟩ = some (.int .i64 (ra : Int)) := by rw [cell_of_row _ _ _ _ _ _ hci]; rfl
      have q4 : w6.cell? ⟨w5.heap.size, 4, none⟩ = some (.int .i64 (bl : Int)) := by rw [cell_of_row _ _ _ _ _ _ hci]; rfl
      have q5 : w6.cell? ⟨w5.heap.size, 5, none⟩ = some (.int .i64 (sh : Int)) := by rw [cell_of_row _ _ _ _ _ _ hci]; rfl
      have hu5 := fun W (hT : Tk W g 0 11 T) => takerU_any g 0 11 4 T W hT (by omega)
      rw [show takeU (0, 11) T 4 = ((0, 15), (T.drop 11).take 4) from takeU_in 11 4 T (by omega) (by omega)] at hu5
      unfold UPost at hu5
      rw [show valLE ((T.drop 11).take 4) = fld T 11 4 from rfl] at hu5
      have v5 := fld_lt T 11 4
      obtain ⟨su, hsu⟩ : ∃ y, y = fld T 11 4 := ⟨_, rfl⟩
      rw [← hsu] at v5 hu5
      have HSU := hid hsu
      have HU5 := hid hu5
      have h15 : (l.take 15).length = 15 := by rw [List.length_take]; omega
      have hsr := sumI_range (l.take 15)
      obtain ⟨S, hS⟩ := Int.eq_ofNat_of_zero_le hsr.1
      have hsum := fun W (ht : Tab W t) (hl : SeesB W (some a) (l.take 15)) => sum_any t (some a) c (l.take 15) W ht hl (by omega)
      rw [h15, hS] at hsum
      rw [hS] at hsr
      have hS4 : S < 4294967296 := by omega
      have HSUM := hid hsum
      have HS := hid hS
      have hT6d : Tk w6.drew g 0 11 T := hT6.below ⟨rfl, rfl, rfl, Nat.le_refl _, fun _ _ => rfl⟩
      clear hu5 hsu hsum hS hsr h15
      go_region_held3 (fun w' => w'.cell? ⟨w5.heap.size, 0, none⟩ = some (.int .i64 (kk : Int)) ∧ w'.cell? ⟨w5.heap.size, 1, none⟩ = some (.int .i64 (ch : Int)) ∧ w'.cell? ⟨w5.heap.size, 2, none⟩ = some (.int .i64 (bi : Int)) ∧ w'.cell? ⟨w5.heap.size, 3, none⟩ = some (.int .i64 (ra : Int)) ∧ w'.cell? ⟨w5.heap.size, 4, none⟩ = some (.int .i64 (bl : Int)) ∧ w'.cell? ⟨w5.heap.size, 5, none⟩ = some (.int .i64 (sh : Int))) (exact ⟨q0, q1, q2, q3, q4, q5⟩)
        (first | (go_at_call 69; refine (HU5.out _ ?_).mono ?_; exact hT6d; rintro e wa ⟨rfl, hTa, hBa⟩; have htA := Tab.but ht6 (undrewB hBa) htg; have hlA : SeesB wa (some a) (l.take 15) := Sees.but hl6 (undrewB hBa) hao; replace q0 := keepBut hBa hgn q0; replace q1 := keepBut hBa hgn q1; replace q2 := keepBut hBa hgn q2; replace q3 := keepBut hBa hgn q3; replace q4 := keepBut hBa hgn q4; replace q5 := keepBut hBa hgn q5) | (go_at_call 48; refine (HSUM.out _ ?_ ?_).mono ?_; exact htA; exact hlA; rintro e wb ⟨rfl, rfl⟩))
      have hbwA := But.below hbw6 (undrewB hBa) (fun b h => by have h2 : b = g := h; omega) hbw6.size
      have hrowA := ((undrewB hBa).block w.heap.size (Array.getElem?_eq_some_iff.1 hrow6).1 (fun h => by have h2 : w.heap.size = g := h; omega)).trans hrow6
      have HFS : Hid (fld l 15 4 = su) := hid (by rw [HSU.out, hT, fldI_t l 11 4 (by omega)])
      have HF0 : Hid (fld l 4 1 = kk ∧ fld l 5 1 = ch ∧ fld l 6 1 = bi ∧ fld l 8 3 = ra ∧ fld l 11 4 = bl ∧ fld l 7 1 = sh) := hid (by
        refine ⟨?_, ?_, ?_, ?_, ?_, ?_⟩
        · rw [← HGkk.out, hT, fldI_t l 0 1 (by omega)]
        · rw [← HGch.out, hT, fldI_t l 1 1 (by omega)]
        · rw [← HGbi.out, hT, fldI_t l 2 1 (by omega)]
        · rw [HRA.out, hT, fldI_t l 4 3 (by omega)]
        · rw [HBL.out, hT, fldI_t l 7 4 (by omega)]
        · rw [← HGsh.out, hT, fldI_t l 3 1 (by omega)])
      have HLONG : Hid (¬ l.length < 19) := hid (by omega)
      have HST := hid hs
      clear hTa hBa htA hlA hT6 hT6d hrow6 hbw6 ht6 hl6 HU5 HSUM hci hs hT
      by_cases heq : su = S
      · have dd : ((su : Int) != (S : Int)) = false := by rw [heq]; simp
        have dd2 : ((su : Int) != IntKind.u64.wrap (S : Int)) = false := by
          rw [show IntKind.u64.wrap (S : Int) = (S : Int) by rw [IntKind.wrap_u64]; omega]; exact dd
        have HEQ := hid heq
        clear heq
        go_wp2_with fail
        refine (iright_any kk ch bi ra bl sh _).mono ?_
        rintro e w8 ⟨rfl, hb8⟩
        have hbw8 := hbwA.trans (hb8.mono hbwA.size)
        have hrow8 := (hb8.block w.heap.size (Array.getElem?_eq_some_iff.1 hrowA).1).trans hrowA
        replace q0 := keep1 hb8 q0
        replace q1 := keep1 hb8 q1
        replace q2 := keep1 hb8 q2
        replace q3 := keep1 hb8 q3
        replace q4 := keep1 hb8 q4
        replace q5 := keep1 hb8 q5
        have hmid : Hid (∀ b, rightI kk ch bi ra bl sh = b → getI l = if b = false then (32, 0, 0, 0, 0, 0, 0) else (0, (kk : Int), (ch : Int), (bi : Int), (ra : Int), (bl : Int), (sh : Int))) := hid (fun b hb => by
          obtain ⟨e0, e1, e2, e3, e4, e5⟩ := HF0.out
          unfold getI saidI
          rw [if_neg (by rw [HST.out]; simp), if_neg HLONG.out, if_neg (by rw [HS.out, HFS.out, HEQ.out]; simp), e0, e1, e2, e3, e4, e5, hb])
        cases hr : rightI kk ch bi ra bl sh with
        | false =>
          obtain rfl : R = (32, 0, 0, 0, 0, 0, 0) := by rw [HR.out, hmid.out false hr, if_pos rfl]
          clear hr hmid HR
          have c0 : w8.cell? ⟨w.heap.size, 0, none⟩ = some (.int .i64 0) := by rw [cell_of_row _ _ _ _ _ _ hrow8]; rfl
          have f0 : w8.frozen? ⟨w.heap.size, 0, none⟩ = false := frozen_of_row _ _ _ _ _ hrow8
          have c1 : w8.cell? ⟨w.heap.size, 1, none⟩ = some (.int .i64 0) := by rw [cell_of_row _ _ _ _ _ _ hrow8]; rfl
          have f1 : w8.frozen? ⟨w.heap.size, 1, none⟩ = false := frozen_of_row _ _ _ _ _ hrow8
          have c2 : w8.cell? ⟨w.heap.size, 2, none⟩ = some (.int .i64 0) := by rw [cell_of_row _ _ _ _ _ _ hrow8]; rfl
          have f2 : w8.frozen? ⟨w.heap.size, 2, none⟩ = false := frozen_of_row _ _ _ _ _ hrow8
          have c3 : w8.cell? ⟨w.heap.size, 3, none⟩ = some (.int .i64 0) := by rw [cell_of_row _ _ _ _ _ _ hrow8]; rfl
          have f3 : w8.frozen? ⟨w.heap.size, 3, none⟩ = false := frozen_of_row _ _ _ _ _ hrow8
          have c4 : w8.cell? ⟨w.heap.size, 4, none⟩ = some (.int .i64 0) := by rw [cell_of_row _ _ _ _ _ _ hrow8]; rfl
          have f4 : w8.frozen? ⟨w.heap.size, 4, none⟩ = false := frozen_of_row _ _ _ _ _ hrow8
          have c5 : w8.cell? ⟨w.heap.size, 5, none⟩ = some (.int .i64 0) := by rw [cell_of_row _ _ _ _ _ _ hrow8]; rfl
          have f5 : w8.frozen? ⟨w.heap.size, 5, none⟩ = false := frozen_of_row _ _ _ _ _ hrow8
          go_wp2_with fail
          have r0 := fun v => heap_setCell_same _ w.heap.size 0 _ _ v hrow8
          have b0 := fun v => Below.setCell hbw8 (p := ⟨w.heap.size, 0, none⟩) (Nat.le_refl _) v
          have r1 := fun v => heap_setCell_same _ w.heap.size 1 _ _ v (r0 (.int .i64 0))
          have b1 := fun v => Below.setCell (b0 (.int .i64 0)) (p := ⟨w.heap.size, 1, none⟩) (Nat.le_refl _) v
          have r2 := fun v => heap_setCell_same _ w.heap.size 2 _ _ v (r1 (.int .i64 0))
          have b2 := fun v => Below.setCell (b1 (.int .i64 0)) (p := ⟨w.heap.size, 2, none⟩) (Nat.le_refl _) v
          have r3 := fun v => heap_setCell_same _ w.heap.size 3 _ _ v (r2 (.int .i64 0))
          have b3 := fun v => Below.setCell (b2 (.int .i64 0)) (p := ⟨w.heap.size, 3, none⟩) (Nat.le_refl _) v
          have r4 := fun v => heap_setCell_same _ w.heap.size 4 _ _ v (r3 (.int .i64 0))
          have b4 := fun v => Below.setCell (b3 (.int .i64 0)) (p := ⟨w.heap.size, 4, none⟩) (Nat.le_refl _) v
          have r5 := fun v => heap_setCell_same _ w.heap.size 5 _ _ v (r4 (.int .i64 0))
          have b5 := fun v => Below.setCell (b4 (.int .i64 0)) (p := ⟨w.heap.size, 5, none⟩) (Nat.le_refl _) v
          exact bodyPost_ret (results_row_tmp rfl _ _ w.heap.size _ _ _ _ rfl (r5 (.int .i64 0)) Tryd.underlying25 rfl (by kernel_rfl)) rfl ⟨rfl, (b5 (.int .i64 0))⟩
        | true =>
          obtain rfl : R = (0, (kk : Int), (ch : Int), (bi : Int), (ra : Int), (bl : Int), (sh : Int)) := by rw [HR.out, hmid.out true hr, if_neg (by simp)]
          clear hr hmid HR
          have c0 : w8.cell? ⟨w.heap.size, 0, none⟩ = some (.int .i64 0) := by rw [cell_of_row _ _ _ _ _ _ hrow8]; rfl
          have f0 : w8.frozen? ⟨w.heap.size, 0, none⟩ = false := frozen_of_row _ _ _ _ _ hrow8
          have c1 : w8.cell? ⟨w.heap.size, 1, none⟩ = some (.int .i64 0) := by rw [cell_of_row _ _ _ _ _ _ hrow8]; rfl
          have f1 : w8.frozen? ⟨w.heap.size, 1, none⟩ = false := frozen_of_row _ _ _ _ _ hrow8
          have c2 : w8.cell? ⟨w.heap.size, 2, none⟩ = some (.int .i64 0) := by rw [cell_of_row _ _ _ _ _ _ hrow8]; rfl
          have f2 : w8.frozen? ⟨w.heap.size, 2, none⟩ = false := frozen_of_row _ _ _ _ _ hrow8
          have c3 : w8.cell? ⟨w.heap.size, 3, none⟩ = some (.int .i64 0) := by rw [cell_of_row _ _ _ _ _ _ hrow8]; rfl
          have f3 : w8.frozen? ⟨w.heap.size, 3, none⟩ = false := frozen_of_row _ _ _ _ _ hrow8
          have c4 : w8.cell? ⟨w.heap.size, 4, none⟩ = some (.int .i64 0) := by rw [cell_of_row _ _ _ _ _ _ hrow8]; rfl
          have f4 : w8.frozen? ⟨w.heap.size, 4, none⟩ = false := frozen_of_row _ _ _ _ _ hrow8
          have c5 : w8.cell? ⟨w.heap.size, 5, none⟩ = some (.int .i64 0) := by rw [cell_of_row _ _ _ _ _ _ hrow8]; rfl
          have f5 : w8.frozen? ⟨w.heap.size, 5, none⟩ = false := frozen_of_row _ _ _ _ _ hrow8
          go_wp2_with fail
          have r0 := fun v => heap_setCell_same _ w.heap.size 0 _ _ v hrow8
          have b0 := fun v => Below.setCell hbw8 (p := ⟨w.heap.size, 0, none⟩) (Nat.le_refl _) v
          have r1 := fun v => heap_setCell_same _ w.heap.size 1 _ _ v (r0 (.int .i64 (kk : Int)))
          have b1 := fun v => Below.setCell (b0 (.int .i64 (kk : Int))) (p := ⟨w.heap.size, 1, none⟩) (Nat.le_refl _) v
          have r2 := fun v => heap_setCell_same _ w.heap.size 2 _ _ v (r1 (.int .i64 (ch : Int)))
          have b2 := fun v => Below.setCell (b1 (.int .i64 (ch : Int))) (p := ⟨w.heap.size, 2, none⟩) (Nat.le_refl _) v
          have r3 := fun v => heap_setCell_same _ w.heap.size 3 _ _ v (r2 (.int .i64 (bi : Int)))
          have b3 := fun v => Below.setCell (b2 (.int .i64 (bi : Int))) (p := ⟨w.heap.size, 3, none⟩) (Nat.le_refl _) v
          have r4 := fun v => heap_setCell_same _ w.heap.size 4 _ _ v (r3 (.int .i64 (ra : Int)))
          have b4 := fun v => Below.setCell (b3 (.int .i64 (ra : Int))) (p := ⟨w.heap.size, 4, none⟩) (Nat.le_refl _) v
          have r5 := fun v => heap_setCell_same _ w.heap.size 5 _ _ v (r4 (.int .i64 (bl : Int)))
          have b5 := fun v => Below.setCell (b4 (.int .i64 (bl : Int))) (p := ⟨w.heap.size, 5, none⟩) (Nat.le_refl _) v
          exact bodyPost_ret (results_row_tmp rfl _ _ w.heap.size _ _ _ _ rfl (r5 (.int .i64 (sh : Int))) Tryd.underlying25 rfl (by kernel_rfl)) rfl ⟨rfl, (b5 (.int .i64 (sh : Int)))⟩
      · have dd : ((su : Int) != (S : Int)) = true := by simp; omega
        have dd2 : ((su : Int) != IntKind.u64.wrap (S : Int)) = true := by
          rw [show IntKind.u64.wrap (S : Int) = (S : Int) by rw [IntKind.wrap_u64]; omega]; exact dd
        obtain rfl : R = (33, 0, 0, 0, 0, 0, 0) := by
          rw [HR.out]
          unfold getI
          rw [if_neg (by rw [HST.out]; simp), if_neg HLONG.out, if_pos (by rw [HS.out, HFS.out]; omega)]
        clear HR heq
        have c0 : wa.cell? ⟨w.heap.size, 0, none⟩ = some (.int .i64 0) := by rw [cell_of_row _ _ _ _ _ _ hrowA]; rfl
        have f0 : wa.frozen? ⟨w.heap.size, 0, none⟩ = false := frozen_of_row _ _ _ _ _ hrowA
        have c1 : wa.cell? ⟨w.heap.size, 1, none⟩ = some (.int .i64 0) := by rw [cell_of_row _ _ _ _ _ _ hrowA]; rfl
        have f1 : wa.frozen? ⟨w.heap.size, 1, none⟩ = false := frozen_of_row _ _ _ _ _ hrowA
        have c2 : wa.cell? ⟨w.heap.size, 2, none⟩ = some (.int .i64 0) := by rw [cell_of_row _ _ _ _ _ _ hrowA]; rfl
        have f2 : wa.frozen? ⟨w.heap.size, 2, none⟩ = false := frozen_of_row _ _ _ _ _ hrowA
        have c3 : wa.cell? ⟨w.heap.size, 3, none⟩ = some (.int .i64 0) := by rw [cell_of_row _ _ _ _ _ _ hrowA]; rfl
        have f3 : wa.frozen? ⟨w.heap.size, 3, none⟩ = false := frozen_of_row _ _ _ _ _ hrowA
        have c4 : wa.cell? ⟨w.heap.size, 4, none⟩ = some (.int .i64 0) := by rw [cell_of_row _ _ _ _ _ _ hrowA]; rfl
        have f4 : wa.frozen? ⟨w.heap.size, 4, none⟩ = false := frozen_of_row _ _ _ _ _ hrowA
        have c5 : wa.cell? ⟨w.heap.size, 5, none⟩ = some (.int .i64 0) := by rw [cell_of_row _ _ _ _ _ _ hrowA]; rfl
        have f5 : wa.frozen? ⟨w.heap.size, 5, none⟩ = false := frozen_of_row _ _ _ _ _ hrowA
        go_wp2_with fail
        have r0 := fun v => heap_setCell_same _ w.heap.size 0 _ _ v hrowA
        have b0 := fun v => Below.setCell hbwA (p := ⟨w.heap.size, 0, none⟩) (Nat.le_refl _) v
        have r1 := fun v => heap_setCell_same _ w.heap.size 1 _ _ v (r0 (.int .i64 0))
        have b1 := fun v => Below.setCell (b0 (.int .i64 0)) (p := ⟨w.heap.size, 1, none⟩) (Nat.le_refl _) v
        have r2 := fun v => heap_setCell_same _ w.heap.size 2 _ _ v (r1 (.int .i64 0))
        have b2 := fun v => Below.setCell (b1 (.int .i64 0)) (p := ⟨w.heap.size, 2, none⟩) (Nat.le_refl _) v
        have r3 := fun v => heap_setCell_same _ w.heap.size 3 _ _ v (r2 (.int .i64 0))
        have b3 := fun v => Below.setCell (b2 (.int .i64 0)) (p := ⟨w.heap.size, 3, none⟩) (Nat.le_refl _) v
        have r4 := fun v => heap_setCell_same _ w.heap.size 4 _ _ v (r3 (.int .i64 0))
        have b4 := fun v => Below.setCell (b3 (.int .i64 0)) (p := ⟨w.heap.size, 4, none⟩) (Nat.le_refl _) v
        have r5 := fun v => heap_setCell_same _ w.heap.size 5 _ _ v (r4 (.int .i64 0))
        have b5 := fun v => Below.setCell (b4 (.int .i64 0)) (p := ⟨w.heap.size, 5, none⟩) (Nat.le_refl _) v
        exact bodyPost_ret (results_row_tmp rfl _ _ w.heap.size _ _ _ _ rfl (r5 (.int .i64 0)) Tryd.underlying25 rfl (by kernel_rfl)) rfl ⟨rfl, (b5 (.int .i64 0))⟩
end Go.Proofs.YtkmhmehofipehaaDoor
