/- The walk of FileCuts. -/
import Derived.Test.YtkmhmehofipehaaDoorC13
import Derived.Test.YtkmhmehofipehaaDoorC24
import Derived.Test.YtkmhmehofipehaaDoorC22
import Derived.Test.YtkmhmehofipehaaDoorC9
import Derived.Test.YtkmhmehofipehaaDoorC8
import Derived.Test.YtkmhmehofipehaaDoorProg
import Derived.Lib.SmallJoins
import Derived.Test.YtkmhmehofipehaaDoorC12
import Derived.Deep.Slices
import Derived.Test.YtkmhmehofipehaaDoorRows
import Derived.MakeChecks
namespace Go.Proofs.YtkmhmehofipehaaDoor
set_option linter.unusedVariables false
open Go.RowKit
theorem brief_few2 {l : List TagV} (h : ∀ x ∈ l, x.k.size ≤ 100 ∧ x.v.size ≤ 1500) : Brief l := fun x hx => by have := h x hx; omega
theorem Built.len {i : InfoV} {l : List TagV} {bs : List (List UInt8)} {sum : Nat} {B : List UInt8} {s : FileS} (h : Built i l bs sum B s) (h12 : bs.length ≤ 12) (h300 : ∀ b ∈ bs, b.length ≤ 300) : B.length ≤ 100000 := by
  have h0 : (addAll i bs (startF i l)).1 = 0 := by rw [h.all]
  have hok := addAll_ok bs (startF i l) 0 (startF_ok i h.short) h300 h0
  rw [h.all] at hok
  simp only [Nat.zero_add] at hok
  have h1 := hok.out
  have h2 := hok.pl
  have h3 : B = s.out ++ tailB s sum := by rw [h.is, h.out]; unfold startF; simp
  rw [h3, List.length_append]
  have h4 : (tailB s sum).length ≤ 1000 := by unfold tailB sealed; rw [List.length_append, tailHead_len, bytesLE_length]; omega
  omega
/-- what Parse answers, its code alone -/
theorem parse_code (g : Nat) (Ab : Option Addr) (cb : Nat) (b : List UInt8) (w : World) (hB : Base w g Ab cb b) (E : Int) (hE : (parseF b).1 = E) :
    Calls Tryd.prog 13 #[.pointer (some ⟨g, 0, none⟩), .slice Ab b.length cb] w fun e w' => (∃ (k ch bi ra bl sh cnt sum : Int) (A1 A2 A3 : Option Addr) (n1 n2 n3 c1 c2 c3 : Nat),
      e = .returned (.tuple #[.agg #[.int .i64 k, .int .i64 ch, .int .i64 bi, .int .i64 ra, .int .i64 bl, .int .i64 sh, .slice A1 n1 c1, .slice A2 n2 c2, .int .i64 cnt, .int .u32 sum, .slice A3 n3 c3], .int .i64 E])) ∧ Below w.heap.size w w' := by
  refine (parse_any g Ab cb b w hB).mono ?_
  rintro e w' ⟨At, ct, Ak, ck, Ax, cx, L, rfl, _, _, _, _, _, _, _, _, _, _, hb⟩
  rw [hE]
  exact ⟨⟨_, _, _, _, _, _, _, _, _, _, _, _, _, _, _, _, _, rfl⟩, hb⟩
namespace fileCuts
set_option maxRecDepth 20000 in
set_option maxHeartbeats 8000000 in
theorem walk (k ch bi ra bl sh : Int) (A : Option Addr) (c : Nat) (l : List TagV) (B : Option Addr) (d : Nat) (bs : List BlkV) (cut : Int) (Am : Option Addr) (cm : Nat) (more : List UInt8) (w : World) (h : SeesT w A l ∧ l.length ≤ c ∧ c ≤ maxLen) (h' : SeesK w B bs ∧ bs.length ≤ d ∧ d ≤ maxLen) (hct : -9223372036854775808 ≤ cut ∧ cut < 9223372036854775808) (hmo : SeesB w Am more ∧ more.length ≤ cm ∧ cm ≤ maxLen) (hT : Tabs w) :
    Calls Tryd.prog 5 #[.agg #[.int .i64 k, .int .i64 ch, .int .i64 bi, .int .i64 ra, .int .i64 bl, .int .i64 sh], .slice A l.length c, .slice B bs.length d, .int .i64 cut, .slice Am more.length cm] w fun e w' => e = .returned (.bool true) ∧ Below w.heap.size w w' := by
  obtain ⟨hl, hlc, hc⟩ := h
  obtain ⟨hk, hkc, hkd⟩ := h'
  obtain ⟨hm, hmc, hmd⟩ := hmo
  have HKN := hid known_any
  have hb : Below w.heap.size w (w.alloc (.cells #[.int .i64 k, .int .i64 ch, .int .i64 bi, .int .i64 ra, .int .i64 bl, .int .i64 sh] 25)) := (Below.refl _ w).alloc (Nat.le_refl _) _
  have hrow := heap_alloc_new w (.cells #[.int .i64 k, .int .i64 ch, .int .i64 bi, .int .i64 ra, .int .i64 bl, .int .i64 sh] 25)
  have hl0 := hl.below hb
  have hk0 := hk.below hb
  have hT0 := hT.below hb
  have hm0 := hm.below hb
  clear hl hk hT hm
  go_enter Tryd.func5, Tryd.ntmps5
  go_wp2_with fail
  generalize w.alloc (.cells #[.int .i64 k, .int .i64 ch, .int .i64 bi, .int .i64 ra, .int .i64 bl, .int .i64 sh] 25) = w0 at *
  refine (fewT_any A c l w0 hl0 ⟨hlc, hc⟩).mono ?_
  rintro e w1 ⟨b, rfl, rfl, hfl⟩
  cases b with
  | false =>
    clear hfl hl0 hk0 hT0 hm0 hrow
    go_wp2_with fail
    refine (HKN.out _).mono ?_
    rintro e wz ⟨rfl, hbz⟩
    go_wp2_with fail
    go_ret
    exact ⟨rfl, hb.trans (hbz.mono hb.size)⟩
  | true =>
    obtain ⟨n1, s1⟩ := hfl rfl
    clear hfl
    go_wp2_with fail
    refine (fewK_any B d bs w0 hk0 ⟨hkc, hkd⟩).mono ?_
    rintro e w1 ⟨b, rfl, rfl, hfk⟩
    cases b with
    | false =>
      clear hfk hl0 hk0 hT0 hm0 hrow
      go_wp2_with fail
      refine (HKN.out _).mono ?_
      rintro e wz ⟨rfl, hbz⟩
      go_wp2_with fail
      go_ret
      exact ⟨rfl, hb.trans (hbz.mono hb.size)⟩
    | true =>
      obtain ⟨n2, s2⟩ := hfk rfl
      clear hfk
      by_cases h100 : 100 < more.length
      · have d100 : decide (100 < more.length) = true := decide_eq_true h100
        have d100' : decide ((100 : Int) < (more.length : Int)) = true := decide_eq_true (by omega)
        clear hl0 hk0 hT0 hm0 hrow s1 s2 h100
        go_wp2_with fail
        refine (HKN.out _).mono ?_
        rintro e wz ⟨rfl, hbz⟩
        go_wp2_with fail
        go_ret
        exact ⟨rfl, hb.trans (hbz.mono hb.size)⟩
      have d100 : decide (100 < more.length) = false := decide_eq_false h100
      have d100' : decide ((100 : Int) < (more.length : Int)) = false := decide_eq_false (by omega)
      have hlm : l.length ≤ maxLen := Nat.le_trans hlc hc
      have hBr := brief_few2 s1
      have HB := hid (fun g W (hb : Below w0.heap.size w0 W) (ht : Tab W g) => build_any g ⟨k, ch, bi, ra, bl, sh⟩ A c l B d bs 5 W ht (hl0.below hb) hlc hlm hBr (hT0.below hb) (hk0.below hb) n2 s2 (by decide))
      have h300 : ∀ b ∈ bs.map BlkV.l, b.length ≤ 300 := by
        intro b hb
        obtain ⟨x, hx, rfl⟩ := List.mem_map.1 hb
        exact s2 x hx
      have HBT := hid (fun (hz : (buildF ⟨k, ch, bi, ra, bl, sh⟩ l (bs.map BlkV.l) 5).1 = 0) => show (∀ m, m < (buildF ⟨k, ch, bi, ra, bl, sh⟩ l (bs.map BlkV.l) 5).2.length → (parseF ((buildF ⟨k, ch, bi, ra, bl, sh⟩ l (bs.map BlkV.l) 5).2.take m)).1 = 10) ∧ (∀ M, (parseF ((buildF ⟨k, ch, bi, ra, bl, sh⟩ l (bs.map BlkV.l) 5).2 ++ M)).1 = if M = [] then 0 else 62) ∧ (buildF ⟨k, ch, bi, ra, bl, sh⟩ l (bs.map BlkV.l) 5).2.length ≤ 100000 from by
        obtain ⟨s, hs⟩ := built_of hz (by simpa using n2) h300 (by decide)
        refine ⟨fun m hm => parse_cut hs hm, fun M => ?_, hs.len (by simpa using n2) h300⟩
        rw [parse_built hs M]
        by_cases hM : M = []
        · rw [if_pos hM, if_pos hM]
        · rw [if_neg hM, if_neg hM])
      generalize buildF ⟨k, ch, bi, ra, bl, sh⟩ l (bs.map BlkV.l) 5 = RR at *
      obtain ⟨E, L⟩ := RR
      simp only at HBT
      unfold InfoV.v at HB
      (try simp only at HB)
      have HPT := hid (fun g A c b W (hb : Below w0.heap.size w0 W) (ht : Tab W g) (hs : SeesB W A b) h1 h2 h3 E hE => parse_code g A c b W ⟨ht, hs, ⟨h1, h2⟩, hT0.below hb, h3⟩ E hE)
      have HMO := hid hm0
      have hm100 : more.length ≤ 100 := by omega
      clear hl0 hk0 hT0 hm0 hBr s1 s2 h300 h100 n1 n2
      go_wp2_with fail
      refine (make_any _).mono ?_
      rintro e w1 ⟨rfl, hb1, ht1⟩
      have hlt0 : w.heap.size < w0.heap.size := (Array.getElem?_eq_some_iff.1 hrow).1
      have hrow1 := (hb1.block w.heap.size hlt0).trans hrow
      clear hrow
      go_wp2_with first | (refine wpList_load_row rfl 25 (.tmp 5) rfl w.heap.size rfl 25 #[.int .i64 k, .int .i64 ch, .int .i64 bi, .int .i64 ra, .int .i64 bl, .int .i64 sh] (0, 0) _ hrow1 Tryd.underlying25 rfl (by kernel_rfl) ?_)
      refine (HB.out w0.heap.size w1 hb1 ht1).mono ?_
      rintro e w2 ⟨v, rfl, hv⟩
      obtain ⟨A2, c2, rfl, hs2, hA2, ho2, hb2⟩ := hv.parts
      have hc2 := own_cap ho2
      simp only at hs2 hc2
      have hb12 := hb1.trans (hb2.mono hb1.size)
      have hbw2 := hb.trans (hb12.mono hb.size)
      have ht2 : Tab w2 w0.heap.size := ht1.keep hb2 ht1.lt
      have hm2 := HMO.out.below hb12
      clear hb1 ht1 hrow1 hv hA2 ho2 hb2 HB
      by_cases hE : E = 0
      case neg =>
        have dE : (E != 0) = true := by simpa using hE
        clear HBT HPT HMO hs2 ht2 hm2 hE
        go_wp2_with fail
        refine (HKN.out _).mono ?_
        rintro e wz ⟨rfl, hbz⟩
        go_wp2_with fail
        go_ret
        exact ⟨rfl, hbw2.trans (hbz.mono hbw2.size)⟩
      subst hE
      obtain ⟨P1, P2, hL⟩ := HBT.out rfl
      have HP1 := hid P1
      have HP2 := hid P2
      clear HBT P1 P2
      by_cases h1 : 1 ≤ cut
      case neg =>
        have d1 : decide (1 ≤ cut) = false := decide_eq_false h1
        clear HP1 h1
        obtain ⟨M, hM⟩ : ∃ M, M = L ++ more := ⟨_, rfl⟩
        have HML := hid (show L.length + more.length = M.length by rw [hM, List.length_append])
        have HMM := hid (show L.map byteV ++ more.map byteV = M.map byteV by rw [hM, List.map_append])
        have HMP := hid (show (parseF M).1 = if more = [] then 0 else 62 by rw [hM]; exact HP2.out more)
        have HML2 := hid (show M.length ≤ 100100 by have := HML.out; omega)
        have hszz := Nat.le_refl (0 : Nat)
        clear hM HP2
        go_wp2_with (at_builtin; first
          | (refine wpList_app rfl (.tmp 66) (.tmp 67) _ rfl elB rfl (own_nil _ _ 1 5) A2 L.length c2 rfl (L.map byteV) hs2 (by simp) (byte_one L) L.length (by omega) (L.map byteV) rfl (by unfold maxLen; omega) (by omega) (Nat.le_refl _) ?_; intro A5 c5 w5 hown5 hgr5 hat5 hbel5)
          | (refine wpList_app rfl (.tmp 68) (.tmp 69) _ rfl elB rfl hown5 Am more.length cm rfl (more.map byteV) (SeesB.below (SeesB.below HMO.out hb12) hbel5) (by simp) (byte_one more) M.length HML.out (M.map byteV) HMM.out (by have := HML2.out; unfold maxLen; omega) (by have := HML2.out; omega) hbel5.size ?_; intro A6 c6 w6 hown6 hgr6 hat6 hbel6))
        have hb56 := hbel5.trans hbel6
        have hb6 := hb12.trans (hb56.mono hb12.size)
        have hbw6 := hb.trans (hb6.mono hb.size)
        have ht6 : Tab w6 w0.heap.size := ht2.keep hb56 ht2.lt
        have hs6 : SeesB w6 A6 M := own_sees hown6
        have hc6 := own_cap hown6
        have HPC := hid (fun E hE => HPT.out w0.heap.size A6 c6 M w6 hb6 ht6 hs6 hc6.1 hc6.2 (by have := HML2.out; omega) E hE)
        clear hown5 hown6 hgr5 hgr6 hat5 hat6 hbel5 hbel6 hb56 hb6 ht6 hs6 hc6 HML HMM HML2 HPT
        by_cases hM : more = []
        · have hM0 : more.length = 0 := by rw [hM]; rfl
          replace HPC := hid (HPC.out 0 (by rw [HMP.out, if_pos hM]))
          rw [hM0]
          clear HMP hM HMO hm100 hmc d100 d100'
          refine HPC.out.mono ?_
          rintro e w7 ⟨⟨vk, vch, vbi, vra, vbl, vsh, vcn, vsm, V1, V2, V3, s1, s2, s3, q1, q2, q3, rfl⟩, hb7⟩
          have hbw7 := hbw6.trans (hb7.mono hbw6.size)
          have hbw8 := hbw7.alloc hbw7.size (.cells #[.int .i64 vk, .int .i64 vch, .int .i64 vbi, .int .i64 vra, .int .i64 vbl, .int .i64 vsh, .slice V1 s1 q1, .slice V2 s2 q2, .int .i64 vcn, .int .u32 vsm, .slice V3 s3 q3] 45)
          clear hb7 HPC
          go_wp2_with fail
          refine (HKN.out _).mono ?_
          rintro e wz ⟨rfl, hbz⟩
          go_wp2_with fail
          go_ret
          exact ⟨rfl, hbw8.trans (hbz.mono hbw8.size)⟩
        · have hM0 : 0 < more.length := List.length_pos_iff.2 hM
          have e1 : ((more.length : Int) == 0) = false := by simpa using hM
          have e2 : (more.length == 0) = false := by simpa using hM
          have e3 : decide ((more.length : Int) = 0) = false := by simpa using hM
          replace HPC := hid (HPC.out 62 (by rw [HMP.out, if_neg hM]))
          clear HMP hM HMO hM0
          refine HPC.out.mono ?_
          rintro e w7 ⟨⟨vk, vch, vbi, vra, vbl, vsh, vcn, vsm, V1, V2, V3, s1, s2, s3, q1, q2, q3, rfl⟩, hb7⟩
          have hbw7 := hbw6.trans (hb7.mono hbw6.size)
          have hbw8 := hbw7.alloc hbw7.size (.cells #[.int .i64 vk, .int .i64 vch, .int .i64 vbi, .int .i64 vra, .int .i64 vbl, .int .i64 vsh, .slice V1 s1 q1, .slice V2 s2 q2, .int .i64 vcn, .int .u32 vsm, .slice V3 s3 q3] 45)
          clear hb7 HPC
          go_wp2_with fail
          refine (HKN.out _).mono ?_
          rintro e wz ⟨rfl, hbz⟩
          go_wp2_with fail
          go_ret
          exact ⟨rfl, hbw8.trans (hbz.mono hbw8.size)⟩
      have d1 : decide (1 ≤ cut) = true := decide_eq_true h1
      by_cases h2 : cut ≤ L.length
      case neg =>
        have d2 : decide (cut ≤ (L.length : Int)) = false := decide_eq_false h2
        clear HP1 h1 h2
        obtain ⟨M, hM⟩ : ∃ M, M = L ++ more := ⟨_, rfl⟩
        have HML := hid (show L.length + more.length = M.length by rw [hM, List.length_append])
        have HMM := hid (show L.map byteV ++ more.map byteV = M.map byteV by rw [hM, List.map_append])
        have HMP := hid (show (parseF M).1 = if more = [] then 0 else 62 by rw [hM]; exact HP2.out more)
        have HML2 := hid (show M.length ≤ 100100 by have := HML.out; omega)
        have hszz := Nat.le_refl (0 : Nat)
        clear hM HP2
        go_wp2_with (at_builtin; first
          | (refine wpList_app rfl (.tmp 66) (.tmp 67) _ rfl elB rfl (own_nil _ _ 1 5) A2 L.length c2 rfl (L.map byteV) hs2 (by simp) (byte_one L) L.length (by omega) (L.map byteV) rfl (by unfold maxLen; omega) (by omega) (Nat.le_refl _) ?_; intro A5 c5 w5 hown5 hgr5 hat5 hbel5)
          | (refine wpList_app rfl (.tmp 68) (.tmp 69) _ rfl elB rfl hown5 Am more.length cm rfl (more.map byteV) (SeesB.below (SeesB.below HMO.out hb12) hbel5) (by simp) (byte_one more) M.length HML.out (M.map byteV) HMM.out (by have := HML2.out; unfold maxLen; omega) (by have := HML2.out; omega) hbel5.size ?_; intro A6 c6 w6 hown6 hgr6 hat6 hbel6))
        have hb56 := hbel5.trans hbel6
        have hb6 := hb12.trans (hb56.mono hb12.size)
        have hbw6 := hb.trans (hb6.mono hb.size)
        have ht6 : Tab w6 w0.heap.size := ht2.keep hb56 ht2.lt
        have hs6 : SeesB w6 A6 M := own_sees hown6
        have hc6 := own_cap hown6
        have HPC := hid (fun E hE => HPT.out w0.heap.size A6 c6 M w6 hb6 ht6 hs6 hc6.1 hc6.2 (by have := HML2.out; omega) E hE)
        clear hown5 hown6 hgr5 hgr6 hat5 hat6 hbel5 hbel6 hb56 hb6 ht6 hs6 hc6 HML HMM HML2 HPT
        by_cases hM : more = []
        · have hM0 : more.length = 0 := by rw [hM]; rfl
          replace HPC := hid (HPC.out 0 (by rw [HMP.out, if_pos hM]))
          rw [hM0]
          clear HMP hM HMO hm100 hmc d100 d100'
          refine HPC.out.mono ?_
          rintro e w7 ⟨⟨vk, vch, vbi, vra, vbl, vsh, vcn, vsm, V1, V2, V3, s1, s2, s3, q1, q2, q3, rfl⟩, hb7⟩
          have hbw7 := hbw6.trans (hb7.mono hbw6.size)
          have hbw8 := hbw7.alloc hbw7.size (.cells #[.int .i64 vk, .int .i64 vch, .int .i64 vbi, .int .i64 vra, .int .i64 vbl, .int .i64 vsh, .slice V1 s1 q1, .slice V2 s2 q2, .int .i64 vcn, .int .u32 vsm, .slice V3 s3 q3] 45)
          clear hb7 HPC
          go_wp2_with fail
          refine (HKN.out _).mono ?_
          rintro e wz ⟨rfl, hbz⟩
          go_wp2_with fail
          go_ret
          exact ⟨rfl, hbw8.trans (hbz.mono hbw8.size)⟩
        · have hM0 : 0 < more.length := List.length_pos_iff.2 hM
          have e1 : ((more.length : Int) == 0) = false := by simpa using hM
          have e2 : (more.length == 0) = false := by simpa using hM
          have e3 : decide ((more.length : Int) = 0) = false := by simpa using hM
          replace HPC := hid (HPC.out 62 (by rw [HMP.out, if_neg hM]))
          clear HMP hM HMO hM0
          refine HPC.out.mono ?_
          rintro e w7 ⟨⟨vk, vch, vbi, vra, vbl, vsh, vcn, vsm, V1, V2, V3, s1, s2, s3, q1, q2, q3, rfl⟩, hb7⟩
          have hbw7 := hbw6.trans (hb7.mono hbw6.size)
          have hbw8 := hbw7.alloc hbw7.size (.cells #[.int .i64 vk, .int .i64 vch, .int .i64 vbi, .int .i64 vra, .int .i64 vbl, .int .i64 vsh, .slice V1 s1 q1, .slice V2 s2 q2, .int .i64 vcn, .int .u32 vsm, .slice V3 s3 q3] 45)
          clear hb7 HPC
          go_wp2_with fail
          refine (HKN.out _).mono ?_
          rintro e wz ⟨rfl, hbz⟩
          go_wp2_with fail
          go_ret
          exact ⟨rfl, hbw8.trans (hbz.mono hbw8.size)⟩
      have d2 : decide (cut ≤ (L.length : Int)) = true := decide_eq_true h2
      obtain ⟨p, hp⟩ : ∃ p : Nat, (L.length : Int) - cut = (p : Int) := ⟨((L.length : Int) - cut).toNat, by omega⟩
      have hwr : wrap64 ((L.length : Int) - cut) = (p : Int) := by unfold wrap64; omega
      have hpl : p < L.length := by omega
      have b1 : (p : Int) ≤ c2 := by have := hc2.1; omega
      have hT10 := HP1.out p hpl
      have hsT : SeesB w2 A2 (L.take p) := by
        have h3 := Sees.take (show Sees w2 A2 (L.map byteV) from hs2) p
        rw [← List.map_take] at h3
        exact h3
      have hTl : (L.take p).length = p := by rw [List.length_take]; omega
      have HPC := hid (HPT.out w0.heap.size A2 c2 (L.take p) w2 hb12 ht2 hsT (by omega) hc2.2 (by omega) 10 hT10)
      rw [hTl] at HPC
      clear HP1 hT10 hsT hTl hp hpl h1 h2
      go_wp2_with fail
      refine HPC.out.mono ?_
      rintro e w3 ⟨⟨xk, xch, xbi, xra, xbl, xsh, xcn, xsm, X1, X2, X3, y1, y2, y3, z1, z2, z3, rfl⟩, hb3⟩
      clear HPC
      have hs3 := SeesB.below hs2 hb3
      have ht3 := ht2.keep hb3 ht2.lt
      have hm3 := hm2.below hb3
      have hbw3 := hbw2.trans (hb3.mono hbw2.size)
      have hb13 := hb12.trans (hb3.mono hb12.size)
      clear hb3 hs2 ht2 hm2 hbw2 hb12
      have hba : Below w3.heap.size w3 (w3.alloc (.cells #[.int .i64 xk, .int .i64 xch, .int .i64 xbi, .int .i64 xra, .int .i64 xbl, .int .i64 xsh, .slice X1 y1 z1, .slice X2 y2 z2, .int .i64 xcn, .int .u32 xsm, .slice X3 y3 z3] 45)) := (Below.refl _ _).alloc (Nat.le_refl _) _
      have hs4 := SeesB.below hs3 hba
      have ht4 := ht3.keep hba ht3.lt
      have hm4 := hm3.below hba
      have hbw4 := hbw3.trans (hba.mono hbw3.size)
      have hb14 := hb13.trans (hba.mono hb13.size)
      clear hba hs3 ht3 hm3 hbw3 hb13
      obtain ⟨M, hM⟩ : ∃ M, M = L ++ more := ⟨_, rfl⟩
      have HML := hid (show L.length + more.length = M.length by rw [hM, List.length_append])
      have HMM := hid (show L.map byteV ++ more.map byteV = M.map byteV by rw [hM, List.map_append])
      have HMP := hid (show (parseF M).1 = if more = [] then 0 else 62 by rw [hM]; exact HP2.out more)
      have HML2 := hid (show M.length ≤ 100100 by have := HML.out; omega)
      have hszz := Nat.le_refl (0 : Nat)
      clear hM HP2
      go_wp2_with (at_builtin; first
        | (refine wpList_app rfl (.tmp 66) (.tmp 67) _ rfl elB rfl (own_nil _ _ 1 5) A2 L.length c2 rfl (L.map byteV) hs4 (by simp) (byte_one L) L.length (by omega) (L.map byteV) rfl (by unfold maxLen; omega) (by omega) (Nat.le_refl _) ?_; intro A5 c5 w5 hown5 hgr5 hat5 hbel5)
        | (refine wpList_app rfl (.tmp 68) (.tmp 69) _ rfl elB rfl hown5 Am more.length cm rfl (more.map byteV) (SeesB.below (SeesB.below HMO.out hb14) hbel5) (by simp) (byte_one more) M.length HML.out (M.map byteV) HMM.out (by have := HML2.out; unfold maxLen; omega) (by have := HML2.out; omega) hbel5.size ?_; intro A6 c6 w6 hown6 hgr6 hat6 hbel6))
      have hb56 := hbel5.trans hbel6
      have hb6 := hb14.trans (hb56.mono hb14.size)
      have hbw6 := hb.trans (hb6.mono hb.size)
      have ht6 : Tab w6 w0.heap.size := ht4.keep hb56 ht4.lt
      have hs6 : SeesB w6 A6 M := own_sees hown6
      have hc6 := own_cap hown6
      have HPC := hid (fun E hE => HPT.out w0.heap.size A6 c6 M w6 hb6 ht6 hs6 hc6.1 hc6.2 (by have := HML2.out; omega) E hE)
      clear hown5 hown6 hgr5 hgr6 hat5 hat6 hbel5 hbel6 hb56 hb6 ht6 hs6 hc6 HML HMM HML2 HPT
      by_cases hM : more = []
      · have hM0 : more.length = 0 := by rw [hM]; rfl
        replace HPC := hid (HPC.out 0 (by rw [HMP.out, if_pos hM]))
        rw [hM0]
        clear HMP hM HMO hm100 hmc d100 d100'
        refine HPC.out.mono ?_
        rintro e w7 ⟨⟨vk, vch, vbi, vra, vbl, vsh, vcn, vsm, V1, V2, V3, s1, s2, s3, q1, q2, q3, rfl⟩, hb7⟩
        have hbw7 := hbw6.trans (hb7.mono hbw6.size)
        have hbw8 := hbw7.alloc hbw7.size (.cells #[.int .i64 vk, .int .i64 vch, .int .i64 vbi, .int .i64 vra, .int .i64 vbl, .int .i64 vsh, .slice V1 s1 q1, .slice V2 s2 q2, .int .i64 vcn, .int .u32 vsm, .slice V3 s3 q3] 45)
        clear hb7 HPC
        go_wp2_with fail
        refine (HKN.out _).mono ?_
        rintro e wz ⟨rfl, hbz⟩
        go_wp2_with fail
        go_ret
        exact ⟨rfl, hbw8.trans (hbz.mono hbw8.size)⟩
      · have hM0 : 0 < more.length := List.length_pos_iff.2 hM
        have e1 : ((more.length : Int) == 0) = false := by simpa using hM
        have e2 : (more.length == 0) = false := by simpa using hM
        have e3 : decide ((more.length : Int) = 0) = false := by simpa using hM
        replace HPC := hid (HPC.out 62 (by rw [HMP.out, if_neg hM]))
        clear HMP hM HMO hM0
        refine HPC.out.mono ?_
        rintro e w7 ⟨⟨vk, vch, vbi, vra, vbl, vsh, vcn, vsm, V1, V2, V3, s1, s2, s3, q1, q2, q3, rfl⟩, hb7⟩
        have hbw7 := hbw6.trans (hb7.mono hbw6.size)
        have hbw8 := hbw7.alloc hbw7.size (.cells #[.int .i64 vk, .int .i64 vch, .int .i64 vbi, .int .i64 vra, .int .i64 vbl, .int .i64 vsh, .slice V1 s1 q1, .slice V2 s2 q2, .int .i64 vcn, .int .u32 vsm, .slice V3 s3 q3] 45)
        clear hb7 HPC
        go_wp2_with fail
        refine (HKN.out _).mono ?_
        rintro e wz ⟨rfl, hbz⟩
        go_wp2_with fail
        go_ret
        exact ⟨rfl, hbw8.trans (hbz.mono hbw8.size)⟩
end fileCuts
end Go.Proofs.YtkmhmehofipehaaDoor
/- A slice of tags that is handed in. -/
namespace Go.Proofs.YtkmhmehofipehaaDoor
set_option linter.unusedVariables false
open Go.RowKit
section
open Go.ChangeShapes Go.WideShapes Go.ChangeAt Go.Deep
variable {H : Type} {enc : TypeId × Value → H} {P : Program} {w : World} {base b0 : Nat} {spare : Nat → Bool} {held : Bool} {r : Reach}
/-- the tag that lies at an address -/
noncomputable def tagAt (w : World) (a : Addr) : TagV :=
  ⟨match w.cell? a with | some (.string s) => s | _ => ByteArray.empty, match w.cell? (a.add 1) with | some (.string s) => s | _ => ByteArray.empty⟩
theorem open_tags_of {t e : TypeId} {v : Value} {d : DataW H} {p : List MemPlace} (ht : P.underlying t = some (.slice e)) (f0 f1 : Field) (he : P.underlying e = some (.struct #[f0, f1]))
    (hone : oneCellFields P #[f0, f1] = true) (hC : P.cellsOf e = 2) (k0 : P.underlying f0.type = some .string) (k1 : P.underlying f1.type = some .string)
    (hv : Value.okWide P w r b0 t v) (h : DataW.Trod enc P w base spare held t v d p) :
    ∃ (A : Option Addr) (c : Nat) (l : List TagV), v = .slice A l.length c ∧ SeesT w A l ∧ l.length ≤ c ∧ c ≤ maxLen := by
  obtain ⟨A, n, c, rfl⟩ := okWide_slice ht hv
  obtain ⟨fuel, hf⟩ := h
  rcases open_slice_fields ht he hone hC hf with ⟨hcs, _⟩ | ⟨a, len, cap, m, D, Pl, hcs, _, hl, hm, hmm, _, hi⟩
  · simp [Value.cells] at hcs
    obtain ⟨rfl, rfl, rfl⟩ := hcs
    exact ⟨none, 0, [], rfl, fun i hi => by simp at hi, by simp, by simp⟩
  · simp [Value.cells] at hcs
    obtain ⟨rfl, rfl, rfl⟩ := hcs
    have hnm : n ≤ m := by rw [hmm]; split <;> omega
    have key : ∀ i, i < n → w.cell? (a.add (i * 2)) = some (.string (tagAt w (a.add (i * 2))).k) ∧ w.cell? ((a.add (i * 2)).add 1) = some (.string (tagAt w (a.add (i * 2))).v) := by
      intro i hin
      obtain ⟨ys, q, _, _, _, hg⟩ := hi i (by omega)
      obtain ⟨v0, y0, c0, _, t0⟩ := hg 0 f0 rfl
      obtain ⟨v1, y1, c1, _, t1⟩ := hg 1 f1 rfl
      obtain ⟨s0, hs0, _⟩ := DataW.trod_string k0 t0
      obtain ⟨s1, hs1, _⟩ := DataW.trod_string k1 t1
      injection hs0 with hs0 _
      injection hs1 with hs1 _
      subst hs0 hs1
      change w.cell? (a.add (i * 2 + 0)) = _ at c0
      change w.cell? (a.add (i * 2 + 1)) = _ at c1
      rw [Nat.add_zero] at c0
      rw [← addr_add] at c1
      unfold tagAt
      simp only [c0, c1]
      exact ⟨trivial, trivial⟩
    refine ⟨some a, c, (List.range n).map fun i => tagAt w (a.add (i * 2)), by simp, ?_, by simpa using hl, hm⟩
    intro i hi'
    have hin : i < n := by simpa using hi'
    obtain ⟨h0, h1⟩ := key i hin
    refine ⟨a, rfl, ?_⟩
    simp only [List.getElem_map, List.getElem_range]
    exact ⟨h0, h1⟩
set_option maxRecDepth 100000 in
theorem open_tags {v : Value} {d : DataW H} {p : List MemPlace} (hv : Value.okWide Tryd.prog w r b0 26 v) (h : DataW.Trod enc Tryd.prog w base spare held 26 v d p) :
    ∃ (A : Option Addr) (c : Nat) (l : List TagV), v = .slice A l.length c ∧ SeesT w A l ∧ l.length ≤ c ∧ c ≤ maxLen :=
  open_tags_of Tryd.underlying26 _ _ Tryd.underlying63 (by kernel_rfl) (by kernel_rfl) Tryd.underlying9 Tryd.underlying9 hv h
end
end Go.Proofs.YtkmhmehofipehaaDoor
/- Info, formats and settings that come in. -/
namespace Go.Proofs.YtkmhmehofipehaaDoor
set_option linter.unusedVariables false
open Go.ChangeShapes Go.WideShapes Go.ChangeAt Go.RowKit Go.Joins
section
variable {H : Type} {enc : TypeId × Value → H} {w : World} {base b0 : Nat} {spare : Nat → Bool} {held : Bool} {r : Reach}
set_option maxRecDepth 100000 in
theorem cellsInfo : Tryd.prog.cellsOf 25 = 6 := by kernel_rfl
set_option maxRecDepth 100000 in
theorem cellsFormat : Tryd.prog.cellsOf 23 = 3 := by kernel_rfl
set_option maxRecDepth 100000 in
theorem cellsInt : Tryd.prog.cellsOf 3 = 1 := by kernel_rfl
set_option maxRecDepth 100000 in
theorem open_info {v : Value} {d : DataW H} {p : List MemPlace} (hv : Value.okWide Tryd.prog w r b0 25 v) (h : DataW.Trod enc Tryd.prog w base spare held 25 v d p) :
    ∃ (k ch bi ra bl sh : Int), v = .agg #[.int .i64 k, .int .i64 ch, .int .i64 bi, .int .i64 ra, .int .i64 bl, .int .i64 sh] ∧ True := by
  obtain ⟨cs, rfl, hsz⟩ := okWide_struct Tryd.underlying25 hv
  obtain ⟨l⟩ := cs
  match l, hsz.trans cellsInfo with
  | [v0, v1, v2, v3, v4, v5], _ =>
    obtain ⟨fuel, hf⟩ := h
    obtain ⟨xs, n, _, hx, _, hlen, hg⟩ := DataW.trod_struct Tryd.underlying25 hf
    match xs, hlen with
    | [y0, y1, y2, y3], _ =>
      have h0 := hg 0 _ rfl
      have h1 := hg 1 _ rfl
      have h2 := hg 2 _ rfl
      have h3 := hg 3 _ rfl
      simp [Value.cells, cellsFormat, cellsInt] at h0 h1 h2 h3
      obtain ⟨k, rfl, _⟩ := int_raw Tryd.underlying3 h0
      obtain ⟨bl, rfl, _⟩ := int_raw Tryd.underlying3 h2
      obtain ⟨sh, rfl, _⟩ := int_raw Tryd.underlying3 h3
      obtain ⟨zs, n2, _, hx2, _, hlen2, hg2⟩ := DataW.trod_struct Tryd.underlying23 h1
      match zs, hlen2 with
      | [z0, z1, z2], _ =>
        have g0 := hg2 0 _ rfl
        have g1 := hg2 1 _ rfl
        have g2 := hg2 2 _ rfl
        simp [cellsInt] at g0 g1 g2
        obtain ⟨ch, rfl, _⟩ := int_raw Tryd.underlying3 g0
        obtain ⟨bi, rfl, _⟩ := int_raw Tryd.underlying3 g1
        obtain ⟨ra, rfl, _⟩ := int_raw Tryd.underlying3 g2
        exact ⟨k, ch, bi, ra, bl, sh, rfl, trivial⟩
end
end Go.Proofs.YtkmhmehofipehaaDoor
/- Slices of bytes that come in. -/
namespace Go.Proofs.YtkmhmehofipehaaDoor
set_option linter.unusedVariables false
open Go.ChangeShapes Go.WideShapes Go.ChangeAt Go.RowKit Go.Joins Go.Deep
section
variable {H : Type} {enc : TypeId × Value → H} {w : World} {base b0 : Nat} {spare : Nat → Bool} {held : Bool} {r : Reach}
set_option maxRecDepth 100000 in
theorem cellsBytesK : Tryd.prog.cellsOf 32 = 1 := by kernel_rfl
set_option maxRecDepth 100000 in
theorem open_blocks {v : Value} {d : DataW H} {p : List MemPlace} (hv : Value.okWide Tryd.prog w r b0 27 v) (h : DataW.Trod enc Tryd.prog w base spare held 27 v d p) :
    ∃ (A : Option Addr) (c : Nat) (L : List BlkV), v = .slice A L.length c ∧ SeesK w A L ∧ L.length ≤ c ∧ c ≤ maxLen := by
  obtain ⟨A, n, c, rfl⟩ := okWide_slice Tryd.underlying27 hv
  obtain ⟨fuel, hf⟩ := h
  rcases open_slice Tryd.underlying27 hf with ⟨hcs, _⟩ | ⟨a, len, cap, m, q, D, Pl, hcs, _, hl, hm, hmm, _, hi⟩
  · simp [Value.cells] at hcs
    obtain ⟨rfl, rfl, rfl⟩ := hcs
    exact ⟨none, 0, [], rfl, ⟨Sees.nil _ _, by simp⟩, by simp, by simp⟩
  · simp [Value.cells] at hcs
    obtain ⟨rfl, rfl, rfl⟩ := hcs
    have key : ∀ i, i < n → ∃ x : BlkV, w.cell? (a.add i) = some x.v ∧ SeesB w x.A x.l ∧ x.l.length ≤ x.c ∧ x.c ≤ maxLen := by
      intro i hlt
      obtain ⟨cs', hc, ht⟩ := hi i (by rw [hmm]; split <;> omega)
      rw [cellsBytesK, Nat.mul_one] at hc
      obtain ⟨_, hcl, hat⟩ := World.cells?_some hc
      obtain ⟨u, rfl⟩ := List.length_eq_one_iff.1 hcl
      have h0 := hat 0 (by omega)
      obtain ⟨A, c, zs, rfl, hs, hc1, hc2, hw⟩ := ints_raw Tryd.underlying32 Tryd.underlying5 (by kernel_rfl) ht
      refine ⟨⟨A, c, zs.map fun z => UInt8.ofNat z.toNat⟩, ?_, ?_, by simpa using hc1, hc2⟩
      · unfold BlkV.v
        simp only [List.length_map]
        exact h0
      · have e : (zs.map fun z => UInt8.ofNat z.toNat).map byteV = zs.map fun z => Value.int .u8 z := by
          rw [List.map_map]
          apply List.map_congr_left
          intro z hz
          have := wf_u8 (hw z hz)
          simp [byteV]; omega
        unfold SeesB
        rw [e]
        exact hs
    let F : Nat → BlkV := fun i => if h : i < n then Classical.choose (key i h) else ⟨none, 0, []⟩
    have hF : ∀ i, i < n → w.cell? (a.add i) = some (F i).v ∧ SeesB w (F i).A (F i).l ∧ (F i).l.length ≤ (F i).c ∧ (F i).c ≤ maxLen := by
      intro i hlt
      have e : F i = Classical.choose (key i hlt) := dif_pos hlt
      rw [e]
      exact Classical.choose_spec (key i hlt)
    refine ⟨some a, c, (List.range n).map F, by simp, ⟨?_, ?_⟩, by simpa using hl, hm⟩
    · intro i v hv
      rw [List.map_map, List.getElem?_map] at hv
      have hlt : i < n := by
        rcases Nat.lt_or_ge i n with h | h
        · exact h
        · rw [List.getElem?_eq_none (by simp; omega)] at hv; cases hv
      rw [List.getElem?_range hlt] at hv
      injection hv with hv
      exact ⟨a, rfl, by rw [← hv]; exact (hF i hlt).1⟩
    · intro x hx
      obtain ⟨i, hi', rfl⟩ := List.mem_map.1 hx
      exact (hF i (by simpa using hi')).2
end
end Go.Proofs.YtkmhmehofipehaaDoor
/- What the rows lay of utf8's two tables: layer 29. -/
namespace Go.Proofs.YtkmhmehofipehaaDoor
set_option linter.unusedVariables false
open Go.RowKit Go.Shelf Go.Lib Go.Proofs
set_option maxRecDepth 100000 in
theorem tabs_of {w : World} (h : laidMetH Tryd.prog Rows.fileBuildsRow.laid w) : Tabs w := by
  rw [MakeChecks.laidMetH_plain _ _ _ (by kernel_rfl)] at h
  have e1 : Rows.laid_unicode_utf8_first = firstData := by kernel_rfl
  have e2 : (Rows.laid_unicode_utf8_acceptRanges : DataW Unit) = acceptData := by kernel_rfl
  have h4 := Lib.laidMet.reads h (.head _)
  have h3 := Lib.laidMet.reads h (.tail _ (.head _))
  rw [e1] at h3
  rw [e2] at h4
  exact utf8Tabs_of_readsT (U8Types.of196 laysValid) extra h3 h4
end Go.Proofs.YtkmhmehofipehaaDoor
