/- Tags as bytes: the program's Put. -/
import Derived.Test.YtlcbfikmljmlpaaDoorTagsPutsM10
import Derived.Test.YtlcbfikmljmlpaaDoorTagsPutsM12
import Derived.Test.YtlcbfikmljmlpaaDoorTagsPutsM13
import Derived.Test.YtlcbfikmljmlpaaDoorTagsPutsM11
namespace Go.Proofs.YtlcbfikmljmlpaaDoor
set_option linter.unusedVariables false
open Go.RowKit
theorem short_of {l : List TagV} (h : (checkT l).2 = 0) : Short l := by
  obtain ⟨h64, ha⟩ := checkT_ok h
  refine ⟨h64, fun i hi => ?_⟩
  obtain ⟨hb, hv⟩ := ha i hi
  unfold badAt at hb
  rw [Bool.or_eq_false_iff] at hb
  have hk : keyB l[i].k = true := by have := hb.1; simpa using this
  unfold keyB at hk
  unfold valB at hv
  simp only [Bool.and_eq_true, decide_eq_true_eq] at hk hv
  exact ⟨hk.2.2, hv.1⟩
/-- a text that is short enough is laid as it is -/
theorem putText_ok (l b : List UInt8) (n : Nat) (h : 1 ≤ n ∧ n ≤ 8) (hv : b.length < 256 ^ n) : putText (0, l) b (n : Int) = (0, l ++ (bytesLE b.length n ++ b)) := by
  unfold putText
  rw [putU_ok l b.length n h hv]
  unfold putRaw
  rw [if_neg (by simp), List.append_assoc]
theorem tagput_nil (v : Value) (w : World) : Calls Tryd.prog 23 #[.pointer none, v] w fun e w' => e = .returned (.tuple #[.slice none 0 0, .int .i64 2]) ∧ w = w' := by
  go_enter Tryd.func23, Tryd.ntmps23
  go_wp2_with fail
  go_ret2
  exact ⟨rfl, rfl⟩
set_option maxRecDepth 20000 in
set_option maxHeartbeats 2000000 in
theorem tagput_bad (g : Nat) (A : Option Addr) (c : Nat) (l : List TagV) (w : World) (hl : SeesT w A l) (hlc : l.length ≤ c) (hlen : l.length ≤ maxLen) (hs : Brief l) (hT : Tabs w) (hb : (checkT l).2 ≠ 0) :
    Calls Tryd.prog 23 #[.pointer (some ⟨g, 0, none⟩), .slice A l.length c] w fun e w' => e = .returned (.tuple #[.slice none 0 0, .int .i64 (checkT l).2]) ∧ Below w.heap.size w w' := by
  have hC := hid (check_any A c l w hl hlc hlen hs hT)
  generalize checkT l = R at *
  obtain ⟨a, e⟩ := R
  simp only at hb hC ⊢
  have de : (e != 0) = true := by simpa using hb
  go_enter Tryd.func23, Tryd.ntmps23
  go_wp2_with fail
  refine hC.out.mono ?_
  rintro e w1 ⟨rfl, hb1⟩
  go_wp2_with fail
  go_ret2
  exact ⟨rfl, hb1⟩
set_option maxRecDepth 20000 in
set_option maxHeartbeats 4000000 in
theorem tagput_ok (g : Nat) (A : Option Addr) (c : Nat) (l : List TagV) (w : World) (ht : Tab w g) (hl : SeesT w A l) (hlc : l.length ≤ c) (hlen : l.length ≤ maxLen) (hs : Brief l) (hT : Tabs w) (hz : (checkT l).2 = 0) :
    Calls Tryd.prog 23 #[.pointer (some ⟨g, 0, none⟩), .slice A l.length c] w (PutPost w (sealed (tagsB l))) := by
  have htg := ht.lt
  have hS := short_of hz
  have hC := hid (check_any A c l w hl hlc hlen hs hT)
  generalize checkT l = R at *
  obtain ⟨a, e⟩ := R
  simp only at hz hC
  subst hz
  have h64 := hS.1
  have hln : (l.length : Int) % 256 = (l.length : Int) := by omega
  go_enter Tryd.func23, Tryd.ntmps23
  go_wp2_with fail
  refine hC.out.mono ?_
  rintro e w1 ⟨rfl, hb1⟩
  have hl1 := hl.below hb1
  have hm := mk_new w1
  have hb2 : Below w1.heap.size w1 (w1.alloc (.cells #[.int .i64 0, .slice none 0 0] 65)) := (Below.refl _ w1).alloc (Nat.le_refl _) _
  have hsz2 : (w1.alloc (.cells #[.int .i64 0, .slice none 0 0] 65)).heap.size = w1.heap.size + 1 := by simp
  have hbw2 := hb1.trans (hb2.mono hb1.size)
  have hhead := hid (show #[.int .u8 84, .int .u8 71, .int .u8 (l.length : Int)] = ((headB l).map byteV).toArray by
    unfold headB byteV
    simp only [List.map_cons, List.map_nil, UInt8.toNat_ofNat']
    rw [Nat.mod_eq_of_lt (by omega)]
    rfl)
  have hwl : w.heap.size ≤ w1.heap.size := hb1.size
  go_wp2_with fail
  generalize w1.alloc (.cells #[.int .i64 0, .slice none 0 0] 65) = w2 at *
  have hb3 : Below w2.heap.size w2 (w2.alloc (.cells #[.int .u8 84, .int .u8 71, .int .u8 (l.length : Int)] 5)) := (Below.refl _ w2).alloc (Nat.le_refl _) _
  have hs3 : SeesB (w2.alloc (.cells #[.int .u8 84, .int .u8 71, .int .u8 (l.length : Int)] 5)) (some ⟨w1.heap.size + 1, 0, none⟩) (headB l) := by
    rw [← hsz2]
    exact Sees.of_block (heap_alloc_new w2 _) (by rw [hhead.out])
  have hm3 := hm.below hb3
  have hbw3 := hbw2.trans (hb3.mono hbw2.size)
  clear hm hb3 hhead
  generalize w2.alloc (.cells #[.int .u8 84, .int .u8 71, .int .u8 (l.length : Int)] 5) = w3 at *
  refine (raw_any w1.heap.size _ 0 [] _ 3 (headB l) w3 hm3 hs3 (by simp [headB])).mono ?_
  rintro e w4 ⟨rfl, R4, hm4, hB4, hR4⟩
  rw [show putRaw (0, []) (headB l) = (0, headB l) from rfl] at hm4
  generalize w1.heap.size = g0 at *
  have hR4' : ∀ b, R4 b → g0 ≤ b := fun b h => by
    rcases hR4 b h with h | h
    · exact Nat.le_of_eq h.symm
    · have := hm3.lt; omega
  have hbw4 := But.below hbw3 hB4 (fun n h => by omega) hbw3.size
  clear hm3 hs3 hB4 hR4 hbw3 hb2 hsz2 hbw2 hl1 hb1
  go_wp2_with fail
  go_loopw [10, 33] (fun x i wr => ∃ n : Nat, n ≤ l.length ∧ i = .int .i64 n ∧ ∃ R, Mk wr g0 R 0 (headB l ++ itemsB (l.take n)) ∧ (∀ b, R b → g0 ≤ b) ∧ Below w.heap.size w wr) (fun _ i _ => l.length - (intOf i).toNat)
  case atStart => exact ⟨0, by omega, rfl, R4, by simpa [itemsB] using hm4, hR4', hbw4⟩
  case round =>
    clear hm4 hR4' hbw4
    obtain ⟨n, hn, rfl, R, hm, hR, hbw⟩ := hrel
    have HIL := hid (itemsB_len hS n hn)
    by_cases hlt : n < l.length
    · have hd : decide (n < l.length) = true := by simpa using hlt
      obtain ⟨a, rfl, x1, x2⟩ := (hl.below hbw).at hlt
      have hsz := hS.2 n hlt
      have HIS := hid (itemsB_step l n hlt)
      obtain ⟨M, hM⟩ : ∃ M, M = headB l ++ itemsB (l.take n) := ⟨_, rfl⟩
      have hML : M.length ≤ 70000 := by rw [hM, List.length_append]; have := HIL.out; unfold headB; simp only [List.length_cons, List.length_nil]; omega
      obtain ⟨K1, hK1⟩ : ∃ K1, K1 = bytesLE l[n].k.data.toList.length 1 ++ l[n].k.data.toList := ⟨_, rfl⟩
      obtain ⟨V1, hV1⟩ : ∃ V1, V1 = bytesLE l[n].v.data.toList.length 2 ++ l[n].v.data.toList := ⟨_, rfl⟩
      have HO := hid (show oneB l[n] = K1 ++ V1 by unfold oneB; rw [hK1, hV1, List.append_assoc])
      have HM2 := hid (show headB l ++ itemsB (l.take (n + 1)) = M ++ K1 ++ V1 by rw [HIS.out, HO.out, hM, List.append_assoc, List.append_assoc])
      have HKl : K1.length ≤ 33 := by rw [hK1, List.length_append, bytesLE_length, size_list]; omega
      have hK := hid (fun R W (h : Mk W g0 R 0 M) => show Calls Tryd.prog 42 #[.pointer (some ⟨g0, 0, none⟩), .string l[n].k, .int .i64 1] W (MkPost W g0 R (0, M ++ K1)) by
        rw [hK1, ← putText_ok M l[n].k.data.toList 1 (by omega) (by rw [size_list]; omega)]
        exact text_any g0 R 0 M l[n].k 1 W h (by omega))
      have hV := hid (fun R W (h : Mk W g0 R 0 (M ++ K1)) => show Calls Tryd.prog 42 #[.pointer (some ⟨g0, 0, none⟩), .string l[n].v, .int .i64 2] W (MkPost W g0 R (0, M ++ K1 ++ V1)) by
        rw [hV1, ← putText_ok (M ++ K1) l[n].v.data.toList 2 (by omega) (by rw [size_list]; omega)]
        exact text_any g0 R 0 (M ++ K1) l[n].v 2 W h (by rw [List.length_append]; omega))
      rw [← hM] at hm
      clear hK1 hV1 hsz hM HIS HO HIL
      generalize l[n].k = kk at *
      generalize l[n].v = vv at *
      have hRs : ∀ b, R b → b < wr.heap.size := by
        obtain ⟨_, _, _, _, _, _, hz⟩ := hm
        exact hz
      have hgl := hm.lt
      have hb6 : Below wr.heap.size wr (wr.alloc (.cells #[.string kk, .string vv] 30)) := (Below.refl _ wr).alloc (Nat.le_refl _) _
      have hrow := heap_alloc_new wr (.cells #[.string kk, .string vv] 30)
      have hlt6 := (Array.getElem?_eq_some_iff.1 hrow).1
      have c0 : (wr.alloc (.cells #[.string kk, .string vv] 30)).cell? ⟨wr.heap.size, 0, none⟩ = some (.string kk) := by rw [cell_of_row _ _ _ _ _ _ hrow]; rfl
      have hm6 := hm.below hb6
      have hbw6 := hbw.trans (hb6.mono hbw.size)
      have hgr : w.heap.size ≤ wr.heap.size := hbw.size
      clear hm hb6 hbw
      go_wp2_with fail
      generalize wr.alloc (.cells #[.string kk, .string vv] 30) = w6 at *
      generalize wr.heap.size = gx at *
      refine (hK.out R w6 hm6).mono ?_
      rintro e w7 ⟨rfl, R7, hm7, hB7, hR7⟩
      have hrow7 := (hB7.block gx hlt6 (fun h => by have := hRs _ h; omega)).trans hrow
      have hlt7 := Nat.lt_of_lt_of_le hlt6 hB7.size
      have c1 : w7.cell? ⟨gx, 1, none⟩ = some (.string vv) := by rw [cell_of_row _ _ _ _ _ _ hrow7]; rfl
      have hbw7 := But.below hbw6 hB7 (fun b h => by have := hR b h; omega) hbw6.size
      have hR7' : ∀ b, R7 b → g0 ≤ b := fun b h => by
        rcases hR7 b h with h | h
        · exact hR b h
        · omega
      clear c0 hrow hm6 hB7 hR7 hbw6
      go_wp2_with fail
      refine (hV.out R7 w7 hm7).mono ?_
      rintro e w8 ⟨rfl, R8, hm8, hB8, hR8⟩
      have hbw8 := But.below hbw7 hB8 (fun b h => by have := hR7' b h; omega) hbw7.size
      have hR8' : ∀ b, R8 b → g0 ≤ b := fun b h => by
        rcases hR8 b h with h | h
        · exact hR7' b h
        · omega
      clear c1 hm7 hB8 hR8 hbw7
      go_wp2_with fail
      exact ⟨⟨n + 1, hlt, by go_num, R8, by rw [HM2.out]; exact hm8, hR8', hbw8⟩, by simp [intOf]; omega⟩
    · obtain rfl : n = l.length := by omega
      have hd : decide (l.length < l.length) = false := by simp
      have HLl := hid (tagsB_len hS)
      have hm4 : Mk wr g0 R 0 (tagsB l) := by rw [List.take_length] at hm; exact hm
      clear hm HIL
      generalize tagsB l = L at *
      go_wp2_with fail
      refine (bytes_ok g0 R L wr hm4 (by have := HLl.out; omega)).mono ?_
      rintro e w8 ⟨v, rfl, hv⟩
      obtain ⟨A8, c8, rfl, hs8, hA8, ho8, hb8⟩ := hv.parts
      have hbw8 := hbw.trans (hb8.mono hbw.size)
      have hm8 := hm4.below hb8
      have hsr := sumI_range L
      obtain ⟨S, hS4⟩ := Int.eq_ofNat_of_zero_le hsr.1
      go_wp2_with fail
      refine (sum_any g A8 c8 L w8 (ht.keep hbw8 htg) hs8 (by have := HLl.out; omega)).mono ?_
      rintro e w9 ⟨rfl, rfl⟩
      have hse : sealed L = L ++ bytesLE S 4 := by unfold sealed; rw [hS4]; rfl
      have HSE := hid hse
      rw [hS4] at hsr ⊢
      have hS5 : S < 4294967296 := by omega
      clear hse hS4
      have hp : putU (0, L) S 4 = (0, L ++ bytesLE S 4) := putU_ok _ S 4 (by omega) (by omega)
      have hst := hid (makerU_any g0 R 0 L S 4 w8 hm8 (by omega) (by have := HLl.out; omega))
      rw [hp] at hst
      clear hp hv ho8 hs8 hA8
      go_wp2_with fail
      refine hst.out.mono ?_
      rintro e wa ⟨rfl, Ra, hma, hBa, hRa⟩
      have hbwa := But.below hbw8 hBa (fun b h => by have := hR b h; omega) hbw8.size
      go_wp2_with fail
      refine (bytes_ok g0 Ra _ wa hma (by rw [List.length_append, bytesLE_length]; have := HLl.out; omega)).mono ?_
      rintro e wb ⟨v, rfl, hv⟩
      have hf : PutPost w (sealed L) (.returned (.tuple #[v, .int .i64 0])) wb := ⟨v, rfl, by rw [HSE.out]; exact hv.lower hbwa⟩
      go_wp2_with fail
      go_ret2
      exact hf
end Go.Proofs.YtlcbfikmljmlpaaDoor
/- The reference's fields: Bytes. -/
namespace Go.Proofs.YtlcbfikmljmlpaaDoor
set_option linter.unusedVariables false
open Go.RowKit
theorem uint8_info : (Tryd.prog.info? 5).map (fun i => (i.zero, i.size, i.bytes)) = some (some (.int .u8 0), 1, 1) := by kernel_rfl
theorem make_bytes (n : Nat) (hn : n ≤ 281474976710656) (w : World) : (Instr.makeSlice 40 (.int .i64 (n : Int)) (.int .i64 (n : Int))).run Tryd.prog w =
    .ok (.slice (some ⟨w.heap.size, 0, none⟩) n n) (w.alloc (.cells (madeCells #[.int .u8 0] n) 5)) := by
  obtain ⟨i, h0, h1, h2, h3⟩ := info_parts uint8_info
  have hr := run_make (P := Tryd.prog) w 40 5 i (.int .u8 0) Tryd.underlying40 h0 h1 .i64 .i64 n n (by omega) (by omega) (by rw [h3]; omega) (by omega)
  simp only [Int.toNat_natCast, h2, Nat.mul_one] at hr
  exact hr
theorem own_made (n : Nat) (hn : n ≤ 281474976710656) (w : World) : (w.alloc (.cells (madeCells #[.int .u8 0] n) 5)).ownsRow w.heap.size 5 1 (.slice (some ⟨w.heap.size, 0, none⟩) n n) n (List.replicate n (.int .u8 0)) := by
  refine ⟨by simp, .inr ⟨w.heap.size, n, _, rfl, Nat.le_refl _, heap_alloc_new _ _, Nat.le_refl _, by unfold maxLen; omega, by simp [size_madeCells], ?_⟩⟩
  rw [toList_madeCells_one, Nat.mul_one, List.take_of_length_le (by simp)]
/-- what is laid as yet -/
def laidTo (v n k : Nat) : List Value := (bytesLE v k).map byteV ++ List.replicate (n - k) (.int .u8 0)
theorem laid_set (v n k : Nat) (h : k < n) : (laidTo v n k).set k (byteV (UInt8.ofNat (v / 256 ^ k % 256))) = laidTo v n (k + 1) := by
  unfold laidTo
  rw [bytesLE_snoc, List.set_append_right _ _ (by simp [bytesLE_length])]
  simp only [List.length_map, bytesLE_length, Nat.sub_self, List.map_append, List.map_cons, List.map_nil, List.append_assoc]
  obtain ⟨m, hm⟩ : ∃ m, n - k = m + 1 := ⟨n - k - 1, by omega⟩
  rw [hm, show n - (k + 1) = m by omega, List.replicate_succ]; rfl
theorem laid_all (v n : Nat) : laidTo v n n = (bytesLE v n).map byteV := by simp [laidTo]
theorem laid_get (v n k : Nat) (h : k < n) : ∃ u, (laidTo v n k)[k]? = some u := by
  refine ⟨_, List.getElem?_eq_getElem ?_⟩
  simp [laidTo, bytesLE_length]; omega
set_option maxHeartbeats 1000000 in
theorem rbytes_any (v n : Nat) (w : World) (hv : v < 18446744073709551616) (hn : n ≤ 8) :
    Calls Tryd.prog 55 #[.int .u64 (v : Int), .int .i64 (n : Int)] w (ClonePost w (bytesLE v n)) := by
  have hmk := make_bytes n (by omega)
  have hown := own_made n (by omega) w
  have hb0 : Below w.heap.size w (w.alloc (.cells (madeCells #[.int .u8 0] n) 5)) := (Below.refl _ _).alloc (Nat.le_refl _) _
  go_enter Tryd.func55, Tryd.ntmps55
  go_wp2_with fail
  generalize hw0 : w.alloc (.cells (madeCells #[.int .u8 0] n) 5) = w0 at *
  clear hw0
  go_loopw [0, 6] (fun x i wr => ∃ k : Nat, k ≤ n ∧ i = .int .i64 k ∧ x = .int .u64 ((v / 256 ^ k : Nat) : Int) ∧ wr.ownsRow w.heap.size 5 1 (.slice (some ⟨w.heap.size, 0, none⟩) n n) n (laidTo v n k) ∧ Below w.heap.size w wr) (fun _ i _ => n - (intOf i).toNat)
  case atStart => exact ⟨0, by omega, rfl, by simp, by simpa [laidTo, bytesLE] using hown, hb0⟩
  case round =>
    obtain ⟨k, hk, rfl, rfl, ho, hb⟩ := hrel
    by_cases hlt : k < n
    · obtain ⟨u, hu⟩ := laid_get v n k hlt
      have hc := (ho.cellAt k (by omega)).trans hu
      have hf := ho.frozenAt k
      have hst := (ho.stored k (byteV (UInt8.ofNat (v / 256 ^ k % 256)))).1
      rw [laid_set v n k hlt] at hst
      have hxv : byteV (UInt8.ofNat (v / 256 ^ k % 256)) = .int .u8 (((v / 256 ^ k : Nat) : Int) % 256) := by
        rw [byteV, UInt8.toNat_ofNat', Nat.mod_eq_of_lt (by omega)]; rfl
      have hdiv : v / 256 ^ (k + 1) = v / 256 ^ k / 256 := by rw [Nat.pow_succ, Nat.div_div_eq_div_mul]
      rw [hxv] at hst
      have HD := hid hdiv
      have hdv : v / 256 ^ k ≤ v := Nat.div_le_self _ _
      clear hdiv hxv hu
      generalize v / 256 ^ k = y at hdv hst HD
      have hd : decide ((k : Int) < n) = true := by simp; omega
      go_wp2_with fail
      exact ⟨⟨k + 1, by omega, by go_num, by rw [HD.out]; rfl, hst, hb.setCell (Nat.le_refl _) _⟩, by simp [intOf]; omega⟩
    · obtain rfl : k = n := by omega
      rw [laid_all] at ho
      have hlen := bytesLE_length v k
      go_wp2_with fail
      go_ret
      refine ⟨_, rfl, some ⟨w.heap.size, 0, none⟩, k, by rw [hlen]; rfl, by rw [hlen]; exact ho, hb⟩
end Go.Proofs.YtlcbfikmljmlpaaDoor
/- The reference's fields: Power. -/
namespace Go.Proofs.YtlcbfikmljmlpaaDoor
set_option linter.unusedVariables false
open Go.RowKit
set_option maxHeartbeats 1000000 in
theorem power_any (n : Nat) (w : World) (hn : n ≤ 7) :
    Calls Tryd.prog 77 #[.int .i64 (n : Int)] w fun e w' => e = .returned (.int .u64 ((256 ^ n : Nat) : Int)) ∧ w = w' := by
  go_enter Tryd.func77, Tryd.ntmps77
  go_wp2_with fail
  go_loop [3, 4] (fun p i => ∃ k : Nat, k ≤ n ∧ i = .int .i64 k ∧ p = .int .u64 ((256 ^ k : Nat) : Int)) (fun _ i => n - (intOf i).toNat)
  case atStart => exact ⟨0, by omega, rfl, rfl⟩
  case round =>
    obtain ⟨k, hk, rfl, rfl⟩ := hrel
    by_cases hlt : k < n
    · have hp : 256 ^ k ≤ 256 ^ 6 := Nat.pow_le_pow_right (by omega) (by omega)
      have hs := hid (Nat.pow_succ 256 k)
      generalize 256 ^ k = y at hp hs
      have hw : IntKind.u64.wrap (256 * (y : Int)) = 256 * (y : Int) := by rw [IntKind.wrap_u64]; omega
      have hmod : 256 * (y : Int) % 18446744073709551616 = 256 * (y : Int) := by omega
      have d1 : decide ((k : Int) < n) = true := by simp; omega
      have d2 : decide ((k : Int) < 7) = true := by simp; omega
      go_wp2_with fail
      exact ⟨⟨k + 1, by omega, by go_num, by rw [hs.out]; simp; omega⟩, by simp [intOf]; omega⟩
    · obtain rfl : k = n := by omega
      go_wp2_with fail
      go_ret
      exact ⟨by simp, rfl⟩
end Go.Proofs.YtlcbfikmljmlpaaDoor
/- The reference's fields: U, I, Text. The maker's: U, I, Text, Len, whole. -/
namespace Go.Proofs.YtlcbfikmljmlpaaDoor
set_option linter.unusedVariables false
open Go.RowKit
def refU (v : Nat) (n : Int) : Int × List UInt8 := if n < 1 ∨ 8 < n then (1, []) else if n < 8 ∧ 256 ^ n.toNat ≤ v then (3, []) else (0, bytesLE v n.toNat)
def RefPost (w : World) (r : Int × List UInt8) (e : Ending) (w' : World) : Prop := ∃ v, e = .returned (.tuple #[v, .int .i64 r.1]) ∧ NewB w r.2 v w'
set_option maxHeartbeats 1000000 in
theorem rU_any (v : Nat) (n : Int) (w : World) (hv : v < 18446744073709551616) :
    Calls Tryd.prog 72 #[.int .u64 (v : Int), .int .i64 n] w (RefPost w (refU v n)) := by
  by_cases h1 : n < 1
  · have hr : refU v n = (1, []) := if_pos (.inl h1)
    rw [hr]
    have d1 : decide (n < 1) = true := by simpa using h1
    go_enter Tryd.func72, Tryd.ntmps72
    go_wp2_with fail
    go_ret2
    exact ⟨_, rfl, NewB.none_ w⟩
  have d1 : decide (n < 1) = false := by simpa using h1
  by_cases h2 : 8 < n
  · have hr : refU v n = (1, []) := if_pos (.inr h2)
    rw [hr]
    have d2 : decide (8 < n) = true := by simpa using h2
    go_enter Tryd.func72, Tryd.ntmps72
    go_wp2_with fail
    go_ret2
    exact ⟨_, rfl, NewB.none_ w⟩
  have d2 : decide (8 < n) = false := by simpa using h2
  obtain ⟨N, rfl⟩ := Int.eq_ofNat_of_zero_le (show 0 ≤ n by omega)
  by_cases h3 : N < 8
  · have d3 : (N : Int) < 8 := by omega
    by_cases h4 : 256 ^ N ≤ v
    · have hr : refU v (N : Int) = (3, []) := (if_neg (by omega)).trans (if_pos ⟨d3, by simpa using h4⟩)
      rw [hr]
      generalize hp : 256 ^ N = p at h4
      have HP := hid hp
      clear hp
      have d4 : decide ((p : Int) ≤ v) = true := by simp; omega
      have d4' : decide (p ≤ v) = true := by simp; omega
      go_enter Tryd.func72, Tryd.ntmps72
      go_wp2_with fail
      refine (power_any N w (by omega)).mono ?_
      rintro e w1 ⟨rfl, rfl⟩
      rw [HP.out]
      go_wp2_with fail
      go_ret2
      exact ⟨_, rfl, NewB.none_ w⟩
    · have hr : refU v (N : Int) = (0, bytesLE v N) := (if_neg (by omega)).trans (if_neg (fun h => h4 (by simpa using h.2)))
      rw [hr]
      generalize hp : 256 ^ N = p at h4
      have HP := hid hp
      clear hp
      have d4 : decide ((p : Int) ≤ v) = false := by simp; omega
      have d4' : decide (p ≤ v) = false := by simp; omega
      go_enter Tryd.func72, Tryd.ntmps72
      go_wp2_with fail
      refine (power_any N w (by omega)).mono ?_
      rintro e w1 ⟨rfl, rfl⟩
      rw [HP.out]
      go_wp2_with fail
      refine (rbytes_any v N _ hv (by omega)).mono ?_
      rintro e w1 ⟨x, rfl, hx⟩
      go_wp2_with fail
      go_ret2
      exact ⟨_, rfl, hx⟩
  · obtain rfl : N = 8 := by omega
    have hr : refU v ((8 : Nat) : Int) = (0, bytesLE v 8) := (if_neg (by omega)).trans (if_neg (by omega))
    rw [hr]
    have d3 : ¬ ((8 : Nat) : Int) < 8 := by omega
    go_enter Tryd.func72, Tryd.ntmps72
    go_wp2_with fail
    refine (rbytes_any v 8 _ hv (by omega)).mono ?_
    rintro e w1 ⟨x, rfl, hx⟩
    go_wp2_with fail
    go_ret2
    exact ⟨_, rfl, hx⟩
/-- laying what a call of the reference gives -/
def lay (s r : Int × List UInt8) : Int × List UInt8 := if s.1 ≠ 0 then s else (r.1, s.2 ++ r.2)
theorem putU_lay (s : Int × List UInt8) (v : Nat) (n : Int) : putU s v n = lay s (refU v n) := by
  unfold putU lay refU
  by_cases h0 : s.1 ≠ 0
  · rw [if_pos h0, if_pos h0]
  rw [if_neg h0, if_neg h0]
  by_cases h1 : n < 1 ∨ 8 < n
  · rw [if_pos h1, if_pos h1]; simp
  rw [if_neg h1, if_neg h1]
  by_cases h2 : n < 8 ∧ 256 ^ n.toNat ≤ v
  · rw [if_pos h2, if_pos h2]; simp
  rw [if_neg h2, if_neg h2]
end Go.Proofs.YtlcbfikmljmlpaaDoor
/- The reference's Text (where there is no I). -/
namespace Go.Proofs.YtlcbfikmljmlpaaDoor
set_option linter.unusedVariables false
open Go.RowKit
def refText (b : List UInt8) (n : Int) : Int × List UInt8 := if (refU b.length n).1 ≠ 0 then ((refU b.length n).1, []) else (0, (refU b.length n).2 ++ b)
set_option maxHeartbeats 1000000 in
theorem rtext_any (s : ByteArray) (n : Int) (w : World) (hs : s.size ≤ 140737488355000) :
    Calls Tryd.prog 54 #[.string s, .int .i64 n] w (RefPost w (refText s.data.toList n)) := by
  have hsl : s.data.toList.length = s.size := by rw [Array.length_toList]; rfl
  unfold refText
  rw [hsl]
  have hU := hid (fun W => rU_any s.size n W (by omega))
  have hrl : (refU s.size n).2.length ≤ 8 := by
    unfold refU
    split
    · simp
    · split
      · simp
      · rw [bytesLE_length]; omega
  generalize refU s.size n = r at hU hrl
  obtain ⟨er, l⟩ := r
  simp only at hrl
  by_cases h0 : er = 0
  · subst h0
    rw [if_neg (by simp)]
    have hsz : s.size ≤ 9223372036854775807 := by omega
    go_enter Tryd.func54, Tryd.ntmps54
    go_wp2_with fail
    refine (hU.out w).mono ?_
    rintro e w1 ⟨v, rfl, A, c, rfl, ho, hb⟩
    go_wp2_with fail
    go_loopw [6, 8] (fun x i wr => ∃ k : Nat, k ≤ s.size ∧ i = .int .i64 k ∧ ∃ (m : List UInt8) (A' : Option Addr) (c' : Nat), m = l ++ s.data.toList.take k ∧ x = .slice A' m.length c' ∧ wr.ownsRow w.heap.size 5 1 (.slice A' m.length c') m.length (m.map byteV) ∧ Below w.heap.size w wr) (fun _ i _ => s.size - (intOf i).toNat)
    case atStart => exact ⟨0, by omega, rfl, l, A, c, by simp, rfl, ho, hb⟩
    case round =>
      obtain ⟨k, hk, rfl, m, A', c', hm, rfl, ho', hb'⟩ := hrel
      have hml : m.length ≤ 140737488355010 := by
        rw [hm, List.length_append, List.length_take]; omega
      by_cases hlt : k < s.size
      · obtain ⟨m2, hm2⟩ : ∃ m2, m2 = m ++ [s[k]] := ⟨_, rfl⟩
        have hmm : m2.map byteV = m.map byteV ++ [byteV s[k]] := by rw [hm2]; simp
        have hl2 : m.length + 1 = m2.length := by rw [hm2]; simp
        have hnext : m2 = l ++ s.data.toList.take (k + 1) := by
          rw [hm2, hm, List.append_assoc]
          congr 1
          rw [List.take_succ_eq_append_getElem (by simpa using hlt)]; rfl
        have HMM := hid hmm
        have HL2 := hid hl2
        have HN := hid hnext
        clear hmm hl2 hnext hm2 hm
        have hd : decide ((k : Int) < s.size) = true := by simp; omega
        have hb2 : Below wr.heap.size wr (wr.alloc (.cells #[byteV s[k]] 5)) := (Below.refl _ _).alloc (Nat.le_refl _) _
        go_wp2_with (at_builtin; refine wpList_app rfl (.tmp 26) (.tmp 30) _ rfl elB rfl (ho'.alloc _) (some ⟨wr.heap.size, 0, none⟩) 1 1 rfl [byteV s[k]] (Sees.of_alloc _ _ _ rfl) (by simp) (by simp [byteV, Value.oneCell']) m2.length HL2.out (m2.map byteV) HMM.out.symm (by have := HL2.out; unfold maxLen; omega) (by have := HL2.out; omega) (Nat.le_trans hb'.size hb2.size) ?_; intro A2 c2 w2 hown hgr hat hbel)
        exact ⟨⟨k + 1, by omega, by go_num, m2, A2, c2, HN.out, rfl, hown, (hb'.trans (hb2.mono hb'.size)).trans hbel⟩, by simp [intOf]; omega⟩
      · obtain rfl : k = s.size := by omega
        have hfin : m = l ++ s.data.toList := by rw [hm, ← hsl, List.take_length]
        have HF := hid hfin
        clear hfin hm
        go_wp2_with fail
        go_ret2
        refine ⟨_, rfl, ?_⟩
        show NewB w (l ++ s.data.toList) _ _
        rw [← HF.out]
        exact ⟨A', c', rfl, ho', hb'⟩
  · rw [if_pos h0]
    have d0 : (er != 0) = true := by simpa using h0
    go_enter Tryd.func54, Tryd.ntmps54
    go_wp2_with fail
    refine (hU.out w).mono ?_
    rintro e w1 ⟨v, rfl, A, c, rfl, ho, hb⟩
    go_wp2_with fail
    go_ret2
    exact ⟨_, rfl, none, 0, rfl, own_nil _ _ _ _, hb⟩
end Go.Proofs.YtlcbfikmljmlpaaDoor
/- Rows of the call's own beside a maker. -/
namespace Go.Proofs.YtlcbfikmljmlpaaDoor
set_option linter.unusedVariables false
open Go.RowKit
/-- what an append of a row turns is that row alone -/
theorem But.of_grown {B : Nat} {w w' : World} {v : Value} (hg : w.grownBy w' v.ownBlock) (hb : Below B w w') : But (fun b => v.ownBlock = some b) w w' :=
  ⟨hb.os, hb.tape, hb.output, hb.size, fun n hn h => hg.block n hn (fun hh => h hh.symm)⟩
/-- a row of the call's own stays where others turn -/
theorem own_but {R : Nat → Prop} {w w' : World} {base n size : Nat} {e : TypeId} {v : Value} {xs : List Value} (h : w.ownsRow base e size v n xs) (hb : But R w w') (hR : ∀ k, v.ownBlock = some k → ¬ R k) : w'.ownsRow base e size v n xs := by
  refine ⟨h.1, ?_⟩
  rcases h.2 with h0 | ⟨g, cap, cur, hv, h1, h2, h3⟩
  · exact .inl h0
  · exact .inr ⟨g, cap, cur, hv, h1, (hb.block g (Array.getElem?_eq_some_iff.1 h2).1 (hR g (by rw [hv]; rfl))).trans h2, h3⟩
theorem own_lt {w : World} {base n size : Nat} {e : TypeId} {v : Value} {xs : List Value} (h : w.ownsRow base e size v n xs) {k : Nat} (hk : v.ownBlock = some k) : k < w.heap.size := by
  rcases h.2 with ⟨rfl, _⟩ | ⟨g, cap, cur, rfl, h1, h2, h3⟩
  · simp [Value.ownBlock] at hk
  · have : g = k := by simpa [Value.ownBlock] using hk
    subst this; exact (Array.getElem?_eq_some_iff.1 h2).1
/-- a maker and a row of the call's own, apart from one another -/
def Both (w : World) (base g : Nat) (R : Nat → Prop) (err : Int) (l : List UInt8) (e : TypeId) (v : Value) (n : Nat) (xs : List Value) : Prop :=
  Mk w g R err l ∧ w.ownsRow base e 1 v n xs ∧ (∀ k, v.ownBlock = some k → ¬ R k) ∧ (∀ k, R k → base ≤ k)
theorem Both.made {w w' : World} {base g : Nat} {R R' : Nat → Prop} {err err' : Int} {l l' : List UInt8} {e : TypeId} {v : Value} {n : Nat} {xs : List Value} (h : Both w base g R err l e v n xs)
    (hm : Mk w' g R' err' l') (hb : But R w w') (hR : ∀ b, R' b → R b ∨ w.heap.size ≤ b) (hB : base ≤ w.heap.size) : Both w' base g R' err' l' e v n xs := by
  obtain ⟨h1, h2, h3, h4⟩ := h
  refine ⟨hm, own_but h2 hb h3, fun k hk hr => ?_, fun k hr => ?_⟩
  · rcases hR k hr with h | h
    · exact h3 k hk h
    · have := own_lt h2 hk; omega
  · rcases hR k hr with h | h
    · exact h4 k h
    · omega
theorem Both.app {w w' : World} {base g : Nat} {R : Nat → Prop} {err : Int} {l : List UInt8} {e : TypeId} {v v' : Value} {n n' : Nat} {xs xs' : List Value} (h : Both w base g R err l e v n xs)
    (ho : w'.ownsRow base e 1 v' n' xs') (hg : w.grownBy w' v.ownBlock) (hat : v'.ownBlock = v.ownBlock ∨ v'.ownBlock = some w.heap.size) (hb : Below base w w') : Both w' base g R err l e v' n' xs' := by
  obtain ⟨h1, h2, h3, h4⟩ := h
  refine ⟨h1.but (But.of_grown hg hb) (fun b hb' => h3 b hb'), ho, fun k hk hr => ?_, h4⟩
  rcases hat with h | h
  · exact h3 k (by rw [← h]; exact hk) hr
  · rw [h] at hk
    injection hk with hk
    have : k < w.heap.size := by obtain ⟨_, _, _, _, _, _, hz⟩ := h1; exact hz k hr
    omega
end Go.Proofs.YtlcbfikmljmlpaaDoor
