/- Any parts put together: the program's Build. -/
import Derived.Test.YtkmhmehofipehaaDoorFileBuildsM28
import Derived.Test.YtkmhmehofipehaaDoorFileBuildsM3
import Derived.Test.YtkmhmehofipehaaDoorFileBuildsM23
namespace Go.Proofs.YtkmhmehofipehaaDoor
set_option linter.unusedVariables false
open Go.RowKit
def BPost (w : World) (r : Int × List UInt8) (e : Ending) (w' : World) : Prop := ∃ v, e = .returned (.tuple #[v, .int .i64 r.1]) ∧ NewB w r.2 v w'
theorem bpost_bad {w w' : World} (er : Int) (hb : Below w.heap.size w w') : BPost w (er, []) (.returned (.tuple #[.slice none 0 0, .int .i64 er])) w' := ⟨_, rfl, none, 0, rfl, own_nil _ _ _ _, hb⟩
set_option maxRecDepth 20000 in
set_option maxHeartbeats 2000000 in
theorem build_info (g : Nat) (i : InfoV) (v u : Value) (sum : Int) (w : World) (hr : i.right = false) :
    Calls Tryd.prog 10 #[.pointer (some ⟨g, 0, none⟩), i.v, v, u, .int .u32 sum] w (BPost w (32, [])) := by
  obtain ⟨k, ch, bi, ra, bl, sh⟩ := i
  unfold InfoV.v
  unfold InfoV.right at hr
  simp only at hr ⊢
  have hb : Below w.heap.size w (w.alloc (.cells #[.int .i64 k, .int .i64 ch, .int .i64 bi, .int .i64 ra, .int .i64 bl, .int .i64 sh] 25)) := (Below.refl _ w).alloc (Nat.le_refl _) _
  have hrow := heap_alloc_new w (.cells #[.int .i64 k, .int .i64 ch, .int .i64 bi, .int .i64 ra, .int .i64 bl, .int .i64 sh] 25)
  go_enter Tryd.func10, Tryd.ntmps10
  go_wp2_with fail
  refine (opened_info g k ch bi ra bl sh v _ hr).mono ?_
  rintro e w1 ⟨rfl, hb1⟩
  go_wp2_with fail
  go_ret2
  exact bpost_bad 32 (hb.trans (hb1.mono hb.size))
theorem InfoV.nats {i : InfoV} (h : i.right = true) : ∃ k ch bi ra bl sh : Nat, i = ⟨k, ch, bi, ra, bl, sh⟩ ∧ rightI k ch bi ra bl sh = true ∧ (k < 256 ∧ ch < 256 ∧ bi < 256 ∧ sh < 256 ∧ ra < 16777216 ∧ bl < 4294967296) ∧ infoB i = sealed (infoHead k ch bi sh ra bl) := by
  have hr := InfoV.range h
  obtain ⟨k, ch, bi, ra, bl, sh⟩ := i
  simp only at hr
  obtain ⟨K, rfl⟩ := Int.eq_ofNat_of_zero_le (show 0 ≤ k by omega)
  obtain ⟨C, rfl⟩ := Int.eq_ofNat_of_zero_le (show 0 ≤ ch by omega)
  obtain ⟨B, rfl⟩ := Int.eq_ofNat_of_zero_le (show 0 ≤ bi by omega)
  obtain ⟨A, rfl⟩ := Int.eq_ofNat_of_zero_le (show 0 ≤ ra by omega)
  obtain ⟨L, rfl⟩ := Int.eq_ofNat_of_zero_le (show 0 ≤ bl by omega)
  obtain ⟨S, rfl⟩ := Int.eq_ofNat_of_zero_le (show 0 ≤ sh by omega)
  exact ⟨K, C, B, A, L, S, rfl, h, by omega, rfl⟩
set_option maxRecDepth 20000 in
set_option maxHeartbeats 2000000 in
theorem build_tags (g : Nat) (i : InfoV) (A0 : Option Addr) (c0 : Nat) (l : List TagV) (u : Value) (sum : Int) (w : World) (hr : i.right = true) (ht : Tab w g) (hl : SeesT w A0 l) (hlc : l.length ≤ c0) (hlen : l.length ≤ maxLen) (hs : Brief l) (hT : Tabs w) (hz : (checkT l).2 ≠ 0) :
    Calls Tryd.prog 10 #[.pointer (some ⟨g, 0, none⟩), i.v, .slice A0 l.length c0, u, .int .u32 sum] w (BPost w ((checkT l).2, [])) := by
  obtain ⟨k, ch, bi, ra, bl, sh, rfl, hrr, hk, _⟩ := InfoV.nats hr
  unfold InfoV.v
  simp only
  have hb : Below w.heap.size w (w.alloc (.cells #[.int .i64 k, .int .i64 ch, .int .i64 bi, .int .i64 ra, .int .i64 bl, .int .i64 sh] 25)) := (Below.refl _ w).alloc (Nat.le_refl _) _
  have hrow := heap_alloc_new w (.cells #[.int .i64 k, .int .i64 ch, .int .i64 bi, .int .i64 ra, .int .i64 bl, .int .i64 sh] 25)
  have hO := hid (opened_tags g k ch bi ra bl sh A0 c0 l _ (hl.below hb) hlc hlen hs (hT.below hb) hz (ht.keep hb ht.lt) hrr hk)
  generalize (checkT l).2 = E at *
  have dE : (E != 0) = true := by simpa using hz
  clear hz hl hs hT hr hrr hk
  go_enter Tryd.func10, Tryd.ntmps10
  go_wp2_with fail
  refine hO.out.mono ?_
  rintro e w1 ⟨rfl, hb1⟩
  go_wp2_with fail
  go_ret2
  exact bpost_bad E (hb.trans (hb1.mono hb.size))
set_option maxRecDepth 20000 in
set_option maxHeartbeats 4000000 in
theorem build_all (g : Nat) (i : InfoV) (A0 : Option Addr) (c0 : Nat) (l : List TagV) (B0 : Option Addr) (d0 : Nat) (bs : List BlkV) (sum : Nat) (w : World) (hr : i.right = true) (ht : Tab w g) (hl : SeesT w A0 l) (hlc : l.length ≤ c0) (hlen : l.length ≤ maxLen) (hs : Brief l) (hT : Tabs w) (hz : (checkT l).2 = 0)
    (hk : SeesK w B0 bs) (hb12 : bs.length ≤ 12) (hb300 : ∀ x ∈ bs, x.l.length ≤ 300) (hsum : sum < 4294967296) :
    Calls Tryd.prog 10 #[.pointer (some ⟨g, 0, none⟩), i.v, .slice A0 l.length c0, .slice B0 bs.length d0, .int .u32 (sum : Int)] w (BPost w (endF (addAll i (bs.map BlkV.l) (startF i l)) sum)) := by
  have hbi : 8 ≤ i.bi ∧ i.bi ≤ 24 := (InfoV.range hr).2.2.1
  obtain ⟨R, hR⟩ : ∃ R, R = addAll i (bs.map BlkV.l) (startF i l) := ⟨_, rfl⟩
  rw [← hR]
  have hso := startF_ok i (short_of hz)
  have hsr := start_rise i l
  obtain ⟨k, ch, bi, ra, bl, sh, hi, hrr, hkk, hib⟩ := InfoV.nats hr
  have hout : (startF i l).out = sealed (infoHead k ch bi sh ra bl) ++ sealed (tagsB l) := by unfold startF; rw [hib]
  have hb : Below w.heap.size w (w.alloc (.cells #[.int .i64 k, .int .i64 ch, .int .i64 bi, .int .i64 ra, .int .i64 bl, .int .i64 sh] 25)) := (Below.refl _ w).alloc (Nat.le_refl _) _
  have hrow := heap_alloc_new w (.cells #[.int .i64 k, .int .i64 ch, .int .i64 bi, .int .i64 ra, .int .i64 bl, .int .i64 sh] 25)
  have hO := hid (opened_ok g k ch bi ra bl sh A0 c0 l _ (hl.below hb) hlc hlen hs (hT.below hb) hz (ht.keep hb ht.lt) hrr hkk (startF i l).out hout)
  have hiv : i.v = .agg #[.int .i64 k, .int .i64 ch, .int .i64 bi, .int .i64 ra, .int .i64 bl, .int .i64 sh] := by rw [hi]; rfl
  rw [hiv]
  have HRL := hid hR.symm
  have HI := hid hi
  have hpl0 : (startF i l).pl = [] := rfl
  have hcn0 : (startF i l).cnt = 0 := rfl
  have hsh0 : (startF i l).short = false := rfl
  have HS0 := hid (⟨hpl0, hcn0, hsh0⟩ : (startF i l).pl = [] ∧ (startF i l).cnt = 0 ∧ (startF i l).short = false)
  generalize startF i l = s0 at *
  clear hR hl hs hT hz hrr hkk hib hiv hout hi hpl0 hcn0 hsh0 hr
  go_enter Tryd.func10, Tryd.ntmps10
  go_wp2_with fail
  generalize hw0 : w.alloc (.cells #[.int .i64 k, .int .i64 ch, .int .i64 bi, .int .i64 ra, .int .i64 bl, .int .i64 sh] 25) = w0 at *
  clear hw0 hrow
  refine hO.out.mono ?_
  rintro e w1 ⟨m, A, c, rfl, hrow, hown, hm, hb1⟩
  have hbw1 := hb.trans (hb1.mono hb.size)
  obtain ⟨base, hbase⟩ : ∃ base, base = w0.heap.size := ⟨_, rfl⟩
  rw [← hbase] at hown hm
  have hbs : w.heap.size ≤ base := by rw [hbase]; exact hb.size
  have hM : Mkr w1 m g i s0 base := by
    obtain ⟨q1, q2, q3⟩ := HS0.out
    have hi := HI.out
    refine ⟨A, c, none, 0, ?_, hown, by rw [q1]; exact own_nil _ _ _ _, hm, by rw [hbase]; exact hb1.size⟩
    rw [q1, q2, q3, hi]
    exact hrow
  have hmw : w.heap.size ≤ m := by omega
  clear hb hb1 hown hm hrow hbase hO HS0 HI
  go_wp2_with fail
  go_loopw [15, 16, 30] (fun x y q wr => ∃ (n : Nat) (s : FileS), n ≤ bs.length ∧ q = .int .i64 n ∧ Mkr wr m g i s base ∧ s.ok n ∧ s.rise ∧ Below w.heap.size w wr ∧ Hid (addAll i ((bs.drop n).map BlkV.l) s = R)) (fun _ _ q _ => bs.length - (intOf q).toNat)
  case atStart => exact ⟨0, s0, by omega, rfl, hM, hso, hsr, hbw1, HRL⟩
  case round =>
    clear hM hbw1 HRL hso hsr
    obtain ⟨n, s, hn, rfl, hM, hso, hsr, hbw, hE⟩ := hrel
    have htr := ht.keep hbw ht.lt
    by_cases hlt : n < bs.length
    · have hd : decide (n < bs.length) = true := by simpa using hlt
      obtain ⟨a, rfl, ca⟩ := (hk.below hbw).at hlt
      obtain ⟨hx, hxc, hxm⟩ := (hk.below hbw).one hlt
      have hx0 := (hk.one hlt).1
      have hx300 := hb300 bs[n] (List.getElem_mem hlt)
      have hEn := hE.out
      rw [List.drop_eq_getElem_cons hlt, List.map_cons] at hEn
      generalize bs[n] = x at *
      obtain ⟨xA, xc, xl⟩ := x
      simp only at ca hx hxc hxm hx0 hx300 hEn
      unfold addAll at hEn
      by_cases hz : (addE i s xl).1 = 0
      · rw [if_neg (by rw [hz]; simp)] at hEn
        have hlb : 36 ≤ xl.length := by
          obtain ⟨_, h2, _, _⟩ := addE_ok hz
          have h3 := (openH_fine (addE_ok hz).1).2.2
          omega
        have hAb : ∀ b, xA = some b → b.block < base := fun b hb => Nat.lt_of_lt_of_le (Sees.lt hx0 (by intro h; have := congrArg List.length h; simp at this; rw [this] at hlb; simp at hlb) hb) hbs
        have hA := hid (madd_ok m g i s base xA xc xl wr hM htr hx hxc hxm hx300 hbi hAb n hso (by omega) hz)
        have hso2 := hso.next hx300 hz
        have hsr2 := addE_rise hsr hso (by omega) hz
        have HEN := hid hEn
        generalize (addE i s xl).2 = s2 at *
        clear hEn hz hlb hx hx0 hE hM hso hsr hAb
        go_wp2_with fail
        refine hA.out.mono ?_
        rintro e w2 ⟨rfl, hM2, hb2⟩
        have hbw2 := hbw.trans (hb2.mono hbs)
        clear hA hbw hb2
        go_wp2_with fail
        exact ⟨⟨n + 1, s2, hlt, by go_num, hM2, hso2, hsr2, hbw2, HEN⟩, by simp [intOf]; omega⟩
      · have hA := hid (madd_bad m g i s base xA xc xl wr hM htr hx hxc hxm hx300 hbi (by have := hso.pl; omega) hz)
        rw [if_pos hz] at hEn
        have HF := hid (show endF R sum = ((addE i s xl).1, []) by rw [← hEn]; unfold endF; rw [if_pos hz])
        generalize (addE i s xl).1 = E at *
        have dE : (E != 0) = true := by simpa using hz
        clear hEn hz hx hx0 hE hM hso hsr
        go_wp2_with fail
        refine hA.out.mono ?_
        rintro e w2 ⟨rfl, hb2⟩
        have hbw2 := hbw.trans (hb2.mono hbw.size)
        clear hA hbw hb2
        go_wp2_with fail
        refine bodyPost_ret (results_tmp2 rfl _ _ _) rfl ?_
        rw [HF.out]
        exact bpost_bad E hbw2
    · obtain rfl : n = bs.length := by omega
      have hd : decide (bs.length < bs.length) = false := by simp
      have hEn := hE.out
      rw [List.drop_length, List.map_nil] at hEn
      have hrt := rise_right hsr hso hb12
      have hrg := right_range hrt
      have hcn := hso.cnt
      have hon := hso.out
      have hpn := hso.pl
      obtain ⟨C, hC⟩ := Int.eq_ofNat_of_zero_le hcn.1
      have HF := hid (show endF R sum = (0, s.out ++ tailB s sum) by rw [← hEn]; rfl)
      have hT2 : tailB s sum = sealed (tailHead C sum s.pl) := by unfold tailB; rw [hC]; rfl
      rw [hC, Int.toNat_natCast] at hrt hrg
      obtain ⟨A, c, Ap, cp, hm, ho, hp, hbm, hbw0⟩ := hM
      have hpI : SeesI wr Ap s.pl := own_sees hp
      have hput := hid (fun W (hb : Below wr.heap.size wr W) => tput_ok g C sum Ap cp s.pl W (htr.keep hb htr.lt) (Sees.below hpI hb) (by omega) hrt (by omega) hsum hrg.2.2.2)
      rw [← hT2] at hput
      have hEl : (tailB s sum).length ≤ 1000 := by rw [hT2]; unfold sealed; rw [List.length_append, tailHead_len, bytesLE_length]; omega
      generalize tailB s sum = T at *
      obtain ⟨M, hMd⟩ : ∃ M, M = s.out ++ T := ⟨_, rfl⟩
      have HNL := hid (show s.out.length + T.length = M.length by rw [hMd, List.length_append])
      have HXL := hid (show s.out.map byteV ++ T.map byteV = M.map byteV by rw [hMd, List.map_append])
      rw [← hMd] at HF
      have m7 : wr.cell? ⟨m, 7, none⟩ = some (.slice A s.out.length c) := by rw [cell_of_row _ _ _ _ _ _ hm]; rfl
      have m8 : wr.cell? ⟨m, 8, none⟩ = some (.slice Ap s.pl.length cp) := by rw [cell_of_row _ _ _ _ _ _ hm]; rfl
      have m9 : wr.cell? ⟨m, 9, none⟩ = some (.int .i64 (C : Int)) := by rw [cell_of_row _ _ _ _ _ _ hm, ← hC]; rfl
      have hdr : Below wr.heap.size wr wr.drew := (Below.refl _ _).drew
      clear hMd hT2 hrt hrg hEn hE hm hC hsr hcn hk hp hpI hso hpn
      go_wp2_with fail
      go_region_held3 (fun w' => w'.cell? ⟨m, 7, none⟩ = some (.slice A s.out.length c) ∧ w'.cell? ⟨m, 8, none⟩ = some (.slice Ap s.pl.length cp) ∧ w'.cell? ⟨m, 9, none⟩ = some (.int .i64 (C : Int))) (first | exact ⟨m7, m8, m9⟩ | exact ⟨f7, f8, f9⟩ | go_keep)
        (first | (go_at_call 20; refine (hput.out _ hdr).mono ?_; rintro e w2 ⟨v, rfl, hv⟩; obtain ⟨A2, c2, rfl, hs2, hA2, ho2, hb2⟩ := hv.parts; have f7 := keep1 hb2 m7; have f8 := keep1 hb2 m8; have f9 := keep1 hb2 m9))
      have hb2' : Below wr.heap.size wr w2 := undrewF hb2
      have hbw2 := hbw.trans (hb2'.mono hbw.size)
      have hown2 := own_keepF ho hb2'
      have hbs2 : base ≤ w2.heap.size := Nat.le_trans hbw0 hb2'.size
      clear hb2 hb2' ho hv ho2 hA2 m7 m8 m9 f8 f9 hbw htr hdr hput
      go_wp2_with (at_builtin; refine wpList_app rfl (.tmp 62) (.tmp 63) _ rfl elB rfl hown2 A2 T.length c2 rfl _ hs2 (by simp) (byte_one _) M.length HNL.out _ HXL.out (by have := HNL.out; unfold maxLen; omega) (by have := HNL.out; omega) hbs2 ?_; intro A3 c3 w3 hown3 hgr hat hbel)
      refine bodyPost_ret (results_tmp2 rfl _ _ _) rfl ?_
      rw [HF.out]
      exact ⟨_, rfl, A3, c3, rfl, Joins.ownsRow_le hown3 hbs, hbw2.trans (hbel.mono hbs)⟩
theorem build_any (g : Nat) (i : InfoV) (A0 : Option Addr) (c0 : Nat) (l : List TagV) (B0 : Option Addr) (d0 : Nat) (bs : List BlkV) (sum : Nat) (w : World) (ht : Tab w g) (hl : SeesT w A0 l) (hlc : l.length ≤ c0) (hlen : l.length ≤ maxLen) (hs : Brief l) (hT : Tabs w)
    (hk : SeesK w B0 bs) (hb12 : bs.length ≤ 12) (hb300 : ∀ x ∈ bs, x.l.length ≤ 300) (hsum : sum < 4294967296) :
    Calls Tryd.prog 10 #[.pointer (some ⟨g, 0, none⟩), i.v, .slice A0 l.length c0, .slice B0 bs.length d0, .int .u32 (sum : Int)] w (BPost w (buildF i l (bs.map BlkV.l) sum)) := by
  cases hr : i.right with
  | false =>
    rw [show buildF i l (bs.map BlkV.l) sum = (32, []) by unfold buildF; rw [if_pos hr]]
    exact build_info g i _ _ _ w hr
  | true =>
    by_cases hz : (checkT l).2 = 0
    · rw [show buildF i l (bs.map BlkV.l) sum = endF (addAll i (bs.map BlkV.l) (startF i l)) sum by unfold buildF; rw [if_neg (by rw [hr]; simp), if_neg (by rw [hz]; simp)]]
      exact build_all g i A0 c0 l B0 d0 bs sum w hr ht hl hlc hlen hs hT hz hk hb12 hb300 hsum
    · rw [show buildF i l (bs.map BlkV.l) sum = ((checkT l).2, []) by unfold buildF; rw [if_neg (by rw [hr]; simp), if_pos hz]]
      exact build_tags g i A0 c0 l _ _ w hr ht hl hlc hlen hs hT hz
end Go.Proofs.YtkmhmehofipehaaDoor
/- The reference's fields: Bytes. -/
namespace Go.Proofs.YtkmhmehofipehaaDoor
set_option linter.unusedVariables false
open Go.RowKit
theorem uint8_info : (Tryd.prog.info? 5).map (fun i => (i.zero, i.size, i.bytes)) = some (some (.int .u8 0), 1, 1) := by kernel_rfl
theorem make_bytes (n : Nat) (hn : n ≤ 281474976710656) (w : World) : (Instr.makeSlice 32 (.int .i64 (n : Int)) (.int .i64 (n : Int))).run Tryd.prog w =
    .ok (.slice (some ⟨w.heap.size, 0, none⟩) n n) (w.alloc (.cells (madeCells #[.int .u8 0] n) 5)) := by
  obtain ⟨i, h0, h1, h2, h3⟩ := info_parts uint8_info
  have hr := run_make (P := Tryd.prog) w 32 5 i (.int .u8 0) Tryd.underlying32 h0 h1 .i64 .i64 n n (by omega) (by omega) (by rw [h3]; omega) (by omega)
  simp only [Int.toNat_natCast, h2, Nat.mul_one] at hr
  exact hr
theorem own_made (n : Nat) (hn : n ≤ 281474976710656) (w : World) : (w.alloc (.cells (madeCells #[.int .u8 0] n) 5)).ownsRow w.heap.size 5 1 (.slice (some ⟨w.heap.size, 0, none⟩) n n) n (List.replicate n (.int .u8 0)) := by
  refine ⟨by simp, .inr ⟨w.heap.size, n, _, rfl, Nat.le_refl _, heap_alloc_new _ _, Nat.le_refl _, by unfold maxLen; omega, by simp [size_madeCells], ?_⟩⟩
  rw [toList_madeCells_one, Nat.mul_one, List.take_of_length_le (by simp)]
/-- what is laid as yet -/
def laidTo (v n k : Nat) : List Value := (bytesLE v k).map byteV ++ List.replicate (n - k) (.int .u8 0)
theorem laid_set (v n k : Nat) (h : k < n) : (laidTo v n k).set k (byteV (UInt8.ofNat (v / 256 ^ k % 256))) = laidTo v n (k + 1) := by
  unfold laidTo
  rw [bytesLE_snoc, List.set_append_right _ _ (by simp [bytesLE_length])]
  simp only [List.length_map, bytesLE_length, Nat.sub_self, List.map_append, List.map_cons, List.map_nil, List.append_assoc]
  obtain ⟨m, hm⟩ : ∃ m, n - k = m + 1 := ⟨n - k - 1, by omega⟩
  rw [hm, show n - (k + 1) = m by omega, List.replicate_succ]; rfl
theorem laid_all (v n : Nat) : laidTo v n n = (bytesLE v n).map byteV := by simp [laidTo]
theorem laid_get (v n k : Nat) (h : k < n) : ∃ u, (laidTo v n k)[k]? = some u := by
  refine ⟨_, List.getElem?_eq_getElem ?_⟩
  simp [laidTo, bytesLE_length]; omega
set_option maxHeartbeats 1000000 in
theorem rbytes_any (v n : Nat) (w : World) (hv : v < 18446744073709551616) (hn : n ≤ 8) :
    Calls Tryd.prog 36 #[.int .u64 (v : Int), .int .i64 (n : Int)] w (ClonePost w (bytesLE v n)) := by
  have hmk := make_bytes n (by omega)
  have hown := own_made n (by omega) w
  have hb0 : Below w.heap.size w (w.alloc (.cells (madeCells #[.int .u8 0] n) 5)) := (Below.refl _ _).alloc (Nat.le_refl _) _
  go_enter Tryd.func36, Tryd.ntmps36
  go_wp2_with fail
  generalize hw0 : w.alloc (.cells (madeCells #[.int .u8 0] n) 5) = w0 at *
  clear hw0
  go_loopw [0, 6] (fun x i wr => ∃ k : Nat, k ≤ n ∧ i = .int .i64 k ∧ x = .int .u64 ((v / 256 ^ k : Nat) : Int) ∧ wr.ownsRow w.heap.size 5 1 (.slice (some ⟨w.heap.size, 0, none⟩) n n) n (laidTo v n k) ∧ Below w.heap.size w wr) (fun _ i _ => n - (intOf i).toNat)
  case atStart => exact ⟨0, by omega, rfl, by simp, by simpa [laidTo, bytesLE] using hown, hb0⟩
  case round =>
    obtain ⟨k, hk, rfl, rfl, ho, hb⟩ := hrel
    by_cases hlt : k < n
    · obtain ⟨u, hu⟩ := laid_get v n k hlt
      have hc := (ho.cellAt k (by omega)).trans hu
      have hf := ho.frozenAt k
      have hst := (ho.stored k (byteV (UInt8.ofNat (v / 256 ^ k % 256)))).1
      rw [laid_set v n k hlt] at hst
      have hxv : byteV (UInt8.ofNat (v / 256 ^ k % 256)) = .int .u8 (((v / 256 ^ k : Nat) : Int) % 256) := by
        rw [byteV, UInt8.toNat_ofNat', Nat.mod_eq_of_lt (by omega)]; rfl
      have hdiv : v / 256 ^ (k + 1) = v / 256 ^ k / 256 := by rw [Nat.pow_succ, Nat.div_div_eq_div_mul]
      rw [hxv] at hst
      have HD := hid hdiv
      have hdv : v / 256 ^ k ≤ v := Nat.div_le_self _ _
      clear hdiv hxv hu
      generalize v / 256 ^ k = y at hdv hst HD
      have hd : decide ((k : Int) < n) = true := by simp; omega
      go_wp2_with fail
      exact ⟨⟨k + 1, by omega, by go_num, by rw [HD.out]; rfl, hst, hb.setCell (Nat.le_refl _) _⟩, by simp [intOf]; omega⟩
    · obtain rfl : k = n := by omega
      rw [laid_all] at ho
      have hlen := bytesLE_length v k
      go_wp2_with fail
      go_ret
      refine ⟨_, rfl, some ⟨w.heap.size, 0, none⟩, k, by rw [hlen]; rfl, by rw [hlen]; exact ho, hb⟩
end Go.Proofs.YtkmhmehofipehaaDoor
/- The reference's fields: Power. -/
namespace Go.Proofs.YtkmhmehofipehaaDoor
set_option linter.unusedVariables false
open Go.RowKit
set_option maxHeartbeats 1000000 in
theorem power_any (n : Nat) (w : World) (hn : n ≤ 7) :
    Calls Tryd.prog 107 #[.int .i64 (n : Int)] w fun e w' => e = .returned (.int .u64 ((256 ^ n : Nat) : Int)) ∧ w = w' := by
  go_enter Tryd.func107, Tryd.ntmps107
  go_wp2_with fail
  go_loop [3, 4] (fun p i => ∃ k : Nat, k ≤ n ∧ i = .int .i64 k ∧ p = .int .u64 ((256 ^ k : Nat) : Int)) (fun _ i => n - (intOf i).toNat)
  case atStart => exact ⟨0, by omega, rfl, rfl⟩
  case round =>
    obtain ⟨k, hk, rfl, rfl⟩ := hrel
    by_cases hlt : k < n
    · have hp : 256 ^ k ≤ 256 ^ 6 := Nat.pow_le_pow_right (by omega) (by omega)
      have hs := hid (Nat.pow_succ 256 k)
      generalize 256 ^ k = y at hp hs
      have hw : IntKind.u64.wrap (256 * (y : Int)) = 256 * (y : Int) := by rw [IntKind.wrap_u64]; omega
      have hmod : 256 * (y : Int) % 18446744073709551616 = 256 * (y : Int) := by omega
      have d1 : decide ((k : Int) < n) = true := by simp; omega
      have d2 : decide ((k : Int) < 7) = true := by simp; omega
      go_wp2_with fail
      exact ⟨⟨k + 1, by omega, by go_num, by rw [hs.out]; simp; omega⟩, by simp [intOf]; omega⟩
    · obtain rfl : k = n := by omega
      go_wp2_with fail
      go_ret
      exact ⟨by simp, rfl⟩
end Go.Proofs.YtkmhmehofipehaaDoor
/- The reference's fields: U, I, Text. The maker's: U, I, Text, Len, whole. -/
namespace Go.Proofs.YtkmhmehofipehaaDoor
set_option linter.unusedVariables false
open Go.RowKit
def refU (v : Nat) (n : Int) : Int × List UInt8 := if n < 1 ∨ 8 < n then (1, []) else if n < 8 ∧ 256 ^ n.toNat ≤ v then (3, []) else (0, bytesLE v n.toNat)
def RefPost (w : World) (r : Int × List UInt8) (e : Ending) (w' : World) : Prop := ∃ v, e = .returned (.tuple #[v, .int .i64 r.1]) ∧ NewB w r.2 v w'
set_option maxHeartbeats 1000000 in
theorem rU_any (v : Nat) (n : Int) (w : World) (hv : v < 18446744073709551616) :
    Calls Tryd.prog 82 #[.int .u64 (v : Int), .int .i64 n] w (RefPost w (refU v n)) := by
  by_cases h1 : n < 1
  · have hr : refU v n = (1, []) := if_pos (.inl h1)
    rw [hr]
    have d1 : decide (n < 1) = true := by simpa using h1
    go_enter Tryd.func82, Tryd.ntmps82
    go_wp2_with fail
    go_ret2
    exact ⟨_, rfl, NewB.none_ w⟩
  have d1 : decide (n < 1) = false := by simpa using h1
  by_cases h2 : 8 < n
  · have hr : refU v n = (1, []) := if_pos (.inr h2)
    rw [hr]
    have d2 : decide (8 < n) = true := by simpa using h2
    go_enter Tryd.func82, Tryd.ntmps82
    go_wp2_with fail
    go_ret2
    exact ⟨_, rfl, NewB.none_ w⟩
  have d2 : decide (8 < n) = false := by simpa using h2
  obtain ⟨N, rfl⟩ := Int.eq_ofNat_of_zero_le (show 0 ≤ n by omega)
  by_cases h3 : N < 8
  · have d3 : (N : Int) < 8 := by omega
    by_cases h4 : 256 ^ N ≤ v
    · have hr : refU v (N : Int) = (3, []) := (if_neg (by omega)).trans (if_pos ⟨d3, by simpa using h4⟩)
      rw [hr]
      generalize hp : 256 ^ N = p at h4
      have HP := hid hp
      clear hp
      have d4 : decide ((p : Int) ≤ v) = true := by simp; omega
      have d4' : decide (p ≤ v) = true := by simp; omega
      go_enter Tryd.func82, Tryd.ntmps82
      go_wp2_with fail
      refine (power_any N w (by omega)).mono ?_
      rintro e w1 ⟨rfl, rfl⟩
      rw [HP.out]
      go_wp2_with fail
      go_ret2
      exact ⟨_, rfl, NewB.none_ w⟩
    · have hr : refU v (N : Int) = (0, bytesLE v N) := (if_neg (by omega)).trans (if_neg (fun h => h4 (by simpa using h.2)))
      rw [hr]
      generalize hp : 256 ^ N = p at h4
      have HP := hid hp
      clear hp
      have d4 : decide ((p : Int) ≤ v) = false := by simp; omega
      have d4' : decide (p ≤ v) = false := by simp; omega
      go_enter Tryd.func82, Tryd.ntmps82
      go_wp2_with fail
      refine (power_any N w (by omega)).mono ?_
      rintro e w1 ⟨rfl, rfl⟩
      rw [HP.out]
      go_wp2_with fail
      refine (rbytes_any v N _ hv (by omega)).mono ?_
      rintro e w1 ⟨x, rfl, hx⟩
      go_wp2_with fail
      go_ret2
      exact ⟨_, rfl, hx⟩
  · obtain rfl : N = 8 := by omega
    have hr : refU v ((8 : Nat) : Int) = (0, bytesLE v 8) := (if_neg (by omega)).trans (if_neg (by omega))
    rw [hr]
    have d3 : ¬ ((8 : Nat) : Int) < 8 := by omega
    go_enter Tryd.func82, Tryd.ntmps82
    go_wp2_with fail
    refine (rbytes_any v 8 _ hv (by omega)).mono ?_
    rintro e w1 ⟨x, rfl, hx⟩
    go_wp2_with fail
    go_ret2
    exact ⟨_, rfl, hx⟩
/-- laying what a call of the reference gives -/
def lay (s r : Int × List UInt8) : Int × List UInt8 := if s.1 ≠ 0 then s else (r.1, s.2 ++ r.2)
theorem putU_lay (s : Int × List UInt8) (v : Nat) (n : Int) : putU s v n = lay s (refU v n) := by
  unfold putU lay refU
  by_cases h0 : s.1 ≠ 0
  · rw [if_pos h0, if_pos h0]
  rw [if_neg h0, if_neg h0]
  by_cases h1 : n < 1 ∨ 8 < n
  · rw [if_pos h1, if_pos h1]; simp
  rw [if_neg h1, if_neg h1]
  by_cases h2 : n < 8 ∧ 256 ^ n.toNat ≤ v
  · rw [if_pos h2, if_pos h2]; simp
  rw [if_neg h2, if_neg h2]
end Go.Proofs.YtkmhmehofipehaaDoor
/- The reference's Text (where there is no I). -/
namespace Go.Proofs.YtkmhmehofipehaaDoor
set_option linter.unusedVariables false
open Go.RowKit
def refText (b : List UInt8) (n : Int) : Int × List UInt8 := if (refU b.length n).1 ≠ 0 then ((refU b.length n).1, []) else (0, (refU b.length n).2 ++ b)
set_option maxHeartbeats 1000000 in
theorem rtext_any (s : ByteArray) (n : Int) (w : World) (hs : s.size ≤ 140737488355000) :
    Calls Tryd.prog 53 #[.string s, .int .i64 n] w (RefPost w (refText s.data.toList n)) := by
  have hsl : s.data.toList.length = s.size := by rw [Array.length_toList]; rfl
  unfold refText
  rw [hsl]
  have hU := hid (fun W => rU_any s.size n W (by omega))
  have hrl : (refU s.size n).2.length ≤ 8 := by
    unfold refU
    split
    · simp
    · split
      · simp
      · rw [bytesLE_length]; omega
  generalize refU s.size n = r at hU hrl
  obtain ⟨er, l⟩ := r
  simp only at hrl
  by_cases h0 : er = 0
  · subst h0
    rw [if_neg (by simp)]
    have hsz : s.size ≤ 9223372036854775807 := by omega
    go_enter Tryd.func53, Tryd.ntmps53
    go_wp2_with fail
    refine (hU.out w).mono ?_
    rintro e w1 ⟨v, rfl, A, c, rfl, ho, hb⟩
    go_wp2_with fail
    go_loopw [6, 8] (fun x i wr => ∃ k : Nat, k ≤ s.size ∧ i = .int .i64 k ∧ ∃ (m : List UInt8) (A' : Option Addr) (c' : Nat), m = l ++ s.data.toList.take k ∧ x = .slice A' m.length c' ∧ wr.ownsRow w.heap.size 5 1 (.slice A' m.length c') m.length (m.map byteV) ∧ Below w.heap.size w wr) (fun _ i _ => s.size - (intOf i).toNat)
    case atStart => exact ⟨0, by omega, rfl, l, A, c, by simp, rfl, ho, hb⟩
    case round =>
      obtain ⟨k, hk, rfl, m, A', c', hm, rfl, ho', hb'⟩ := hrel
      have hml : m.length ≤ 140737488355010 := by
        rw [hm, List.length_append, List.length_take]; omega
      by_cases hlt : k < s.size
      · obtain ⟨m2, hm2⟩ : ∃ m2, m2 = m ++ [s[k]] := ⟨_, rfl⟩
        have hmm : m2.map byteV = m.map byteV ++ [byteV s[k]] := by rw [hm2]; simp
        have hl2 : m.length + 1 = m2.length := by rw [hm2]; simp
        have hnext : m2 = l ++ s.data.toList.take (k + 1) := by
          rw [hm2, hm, List.append_assoc]
          congr 1
          rw [List.take_succ_eq_append_getElem (by simpa using hlt)]; rfl
        have HMM := hid hmm
        have HL2 := hid hl2
        have HN := hid hnext
        clear hmm hl2 hnext hm2 hm
        have hd : decide ((k : Int) < s.size) = true := by simp; omega
        have hb2 : Below wr.heap.size wr (wr.alloc (.cells #[byteV s[k]] 5)) := (Below.refl _ _).alloc (Nat.le_refl _) _
        go_wp2_with (at_builtin; refine wpList_app rfl (.tmp 26) (.tmp 30) _ rfl elB rfl (ho'.alloc _) (some ⟨wr.heap.size, 0, none⟩) 1 1 rfl [byteV s[k]] (Sees.of_alloc _ _ _ rfl) (by simp) (by simp [byteV, Value.oneCell']) m2.length HL2.out (m2.map byteV) HMM.out.symm (by have := HL2.out; unfold maxLen; omega) (by have := HL2.out; omega) (Nat.le_trans hb'.size hb2.size) ?_; intro A2 c2 w2 hown hgr hat hbel)
        exact ⟨⟨k + 1, by omega, by go_num, m2, A2, c2, HN.out, rfl, hown, (hb'.trans (hb2.mono hb'.size)).trans hbel⟩, by simp [intOf]; omega⟩
      · obtain rfl : k = s.size := by omega
        have hfin : m = l ++ s.data.toList := by rw [hm, ← hsl, List.take_length]
        have HF := hid hfin
        clear hfin hm
        go_wp2_with fail
        go_ret2
        refine ⟨_, rfl, ?_⟩
        show NewB w (l ++ s.data.toList) _ _
        rw [← HF.out]
        exact ⟨A', c', rfl, ho', hb'⟩
  · rw [if_pos h0]
    have d0 : (er != 0) = true := by simpa using h0
    go_enter Tryd.func53, Tryd.ntmps53
    go_wp2_with fail
    refine (hU.out w).mono ?_
    rintro e w1 ⟨v, rfl, A, c, rfl, ho, hb⟩
    go_wp2_with fail
    go_ret2
    exact ⟨_, rfl, none, 0, rfl, own_nil _ _ _ _, hb⟩
end Go.Proofs.YtkmhmehofipehaaDoor
