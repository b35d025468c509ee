/- The walk of FileCuts. -/
import Derived.Test.YtkmhmehofipehaaDoorK13
import Derived.Test.YtkmhmehofipehaaDoorK24
import Derived.Test.YtkmhmehofipehaaDoorK22
import Derived.Test.YtkmhmehofipehaaDoorK25
import Derived.Test.YtkmhmehofipehaaDoorK15
import Derived.BigQuiet
namespace Go.Proofs.YtkmhmehofipehaaDoor
set_option linter.unusedVariables false
open Go.RowKit
theorem brief_few2 {l : List TagV} (h : ∀ x ∈ l, x.k.size ≤ 100 ∧ x.v.size ≤ 1500) : Brief l := fun x hx => by have := h x hx; omega
theorem Built.len {i : InfoV} {l : List TagV} {bs : List (List UInt8)} {sum : Nat} {B : List UInt8} {s : FileS} (h : Built i l bs sum B s) (h12 : bs.length ≤ 12) (h300 : ∀ b ∈ bs, b.length ≤ 300) : B.length ≤ 100000 := by
  have h0 : (addAll i bs (startF i l)).1 = 0 := by rw [h.all]
  have hok := addAll_ok bs (startF i l) 0 (startF_ok i h.short) h300 h0
  rw [h.all] at hok
  simp only [Nat.zero_add] at hok
  have h1 := hok.out
  have h2 := hok.pl
  have h3 : B = s.out ++ tailB s sum := by rw [h.is, h.out]; unfold startF; simp
  rw [h3, List.length_append]
  have h4 : (tailB s sum).length ≤ 1000 := by unfold tailB sealed; rw [List.length_append, tailHead_len, bytesLE_length]; omega
  omega
/-- what Parse answers, its code alone -/
theorem parse_code (g : Nat) (Ab : Option Addr) (cb : Nat) (b : List UInt8) (w : World) (hB : Base w g Ab cb b) (E : Int) (hE : (parseF b).1 = E) :
    Calls Tryd.prog 13 #[.pointer (some ⟨g, 0, none⟩), .slice Ab b.length cb] w fun e w' => (∃ (k ch bi ra bl sh cnt sum : Int) (A1 A2 A3 : Option Addr) (n1 n2 n3 c1 c2 c3 : Nat),
      e = .returned (.tuple #[.agg #[.int .i64 k, .int .i64 ch, .int .i64 bi, .int .i64 ra, .int .i64 bl, .int .i64 sh, .slice A1 n1 c1, .slice A2 n2 c2, .int .i64 cnt, .int .u32 sum, .slice A3 n3 c3], .int .i64 E])) ∧ Below w.heap.size w w' := by
  refine (parse_any g Ab cb b w hB).mono ?_
  rintro e w' ⟨At, ct, Ak, ck, Ax, cx, L, rfl, _, _, _, _, _, _, _, _, _, _, hb⟩
  rw [hE]
  exact ⟨⟨_, _, _, _, _, _, _, _, _, _, _, _, _, _, _, _, _, rfl⟩, hb⟩
namespace fileCuts
set_option maxRecDepth 20000 in
set_option maxHeartbeats 8000000 in
theorem walk (k ch bi ra bl sh : Int) (A : Option Addr) (c : Nat) (l : List TagV) (B : Option Addr) (d : Nat) (bs : List BlkV) (cut : Int) (Am : Option Addr) (cm : Nat) (more : List UInt8) (w : World) (h : SeesT w A l ∧ l.length ≤ c ∧ c ≤ maxLen) (h' : SeesK w B bs ∧ bs.length ≤ d ∧ d ≤ maxLen) (hct : -9223372036854775808 ≤ cut ∧ cut < 9223372036854775808) (hmo : SeesB w Am more ∧ more.length ≤ cm ∧ cm ≤ maxLen) (hT : Tabs w) :
    Calls Tryd.prog 5 #[.agg #[.int .i64 k, .int .i64 ch, .int .i64 bi, .int .i64 ra, .int .i64 bl, .int .i64 sh], .slice A l.length c, .slice B bs.length d, .int .i64 cut, .slice Am more.length cm] w fun e w' => e = .returned (.bool true) ∧ Below w.heap.size w w' := by
  obtain ⟨hl, hlc, hc⟩ := h
  obtain ⟨hk, hkc, hkd⟩ := h'
  obtain ⟨hm, hmc, hmd⟩ := hmo
  have HKN := hid known_any
  have hb : Below w.heap.size w (w.alloc (.cells #[.int .i64 k, .int .i64 ch, .int .i64 bi, .int .i64 ra, .int .i64 bl, .int .i64 sh] 25)) := (Below.refl _ w).alloc (Nat.le_refl _) _
  have hrow := heap_alloc_new w (.cells #[.int .i64 k, .int .i64 ch, .int .i64 bi, .int .i64 ra, .int .i64 bl, .int .i64 sh] 25)
  have hl0 := hl.below hb
  have hk0 := hk.below hb
  have hT0 := hT.below hb
  have hm0 := hm.below hb
  clear hl hk hT hm
  go_enter Tryd.func5, Tryd.ntmps5
  go_wp2_with fail
  generalize w.alloc (.cells #[.int .i64 k, .int .i64 ch, .int .i64 bi, .int .i64 ra, .int .i64 bl, .int .i64 sh] 25) = w0 at *
  refine (fewT_any A c l w0 hl0 ⟨hlc, hc⟩).mono ?_
  rintro e w1 ⟨b, rfl, rfl, hfl⟩
  cases b with
  | false =>
    clear hfl hl0 hk0 hT0 hm0 hrow
    go_wp2_with fail
    refine (HKN.out _).mono ?_
    rintro e wz ⟨rfl, hbz⟩
    go_wp2_with fail
    go_ret
    exact ⟨rfl, hb.trans (hbz.mono hb.size)⟩
  | true =>
    obtain ⟨n1, s1⟩ := hfl rfl
    clear hfl
    go_wp2_with fail
    refine (fewK_any B d bs w0 hk0 ⟨hkc, hkd⟩).mono ?_
    rintro e w1 ⟨b, rfl, rfl, hfk⟩
    cases b with
    | false =>
      clear hfk hl0 hk0 hT0 hm0 hrow
      go_wp2_with fail
      refine (HKN.out _).mono ?_
      rintro e wz ⟨rfl, hbz⟩
      go_wp2_with fail
      go_ret
      exact ⟨rfl, hb.trans (hbz.mono hb.size)⟩
    | true =>
      obtain ⟨n2, s2⟩ := hfk rfl
      clear hfk
      by_cases h100 : 100 < more.length
      · have d100 : decide (100 < more.length) = true := decide_eq_true h100
        have d100' : decide ((100 : Int) < (more.length : Int)) = true := decide_eq_true (by omega)
        clear hl0 hk0 hT0 hm0 hrow s1 s2 h100
        go_wp2_with fail
        refine (HKN.out _).mono ?_
        rintro e wz ⟨rfl, hbz⟩
        go_wp2_with fail
        go_ret
        exact ⟨rfl, hb.trans (hbz.mono hb.size)⟩
      have d100 : decide (100 < more.length) = false := decide_eq_false h100
      have d100' : decide ((100 : Int) < (more.length : Int)) = false := decide_eq_false (by omega)
      have hlm : l.length ≤ maxLen := Nat.le_trans hlc hc
      have hBr := brief_few2 s1
      have HB := hid (fun g W (hb : Below w0.heap.size w0 W) (ht : Tab W g) => build_any g ⟨k, ch, bi, ra, bl, sh⟩ A c l B d bs 5 W ht (hl0.below hb) hlc hlm hBr (hT0.below hb) (hk0.below hb) n2 s2 (by decide))
      have h300 : ∀ b ∈ bs.map BlkV.l, b.length ≤ 300 := by
        intro b hb
        obtain ⟨x, hx, rfl⟩ := List.mem_map.1 hb
        exact s2 x hx
      have HBT := hid (fun (hz : (buildF ⟨k, ch, bi, ra, bl, sh⟩ l (bs.map BlkV.l) 5).1 = 0) => show (∀ m, m < (buildF ⟨k, ch, bi, ra, bl, sh⟩ l (bs.map BlkV.l) 5).2.length → (parseF ((buildF ⟨k, ch, bi, ra, bl, sh⟩ l (bs.map BlkV.l) 5).2.take m)).1 = 10) ∧ (∀ M, (parseF ((buildF ⟨k, ch, bi, ra, bl, sh⟩ l (bs.map BlkV.l) 5).2 ++ M)).1 = if M = [] then 0 else 62) ∧ (buildF ⟨k, ch, bi, ra, bl, sh⟩ l (bs.map BlkV.l) 5).2.length ≤ 100000 from by
        obtain ⟨s, hs⟩ := built_of hz (by simpa using n2) h300 (by decide)
        refine ⟨fun m hm => parse_cut hs hm, fun M => ?_, hs.len (by simpa using n2) h300⟩
        rw [parse_built hs M]
        by_cases hM : M = []
        · rw [if_pos hM, if_pos hM]
        · rw [if_neg hM, if_neg hM])
      generalize buildF ⟨k, ch, bi, ra, bl, sh⟩ l (bs.map BlkV.l) 5 = RR at *
      obtain ⟨E, L⟩ := RR
      simp only at HBT
      unfold InfoV.v at HB
      (try simp only at HB)
      have HPT := hid (fun g A c b W (hb : Below w0.heap.size w0 W) (ht : Tab W g) (hs : SeesB W A b) h1 h2 h3 E hE => parse_code g A c b W ⟨ht, hs, ⟨h1, h2⟩, hT0.below hb, h3⟩ E hE)
      have HMO := hid hm0
      have hm100 : more.length ≤ 100 := by omega
      clear hl0 hk0 hT0 hm0 hBr s1 s2 h300 h100 n1 n2
      go_wp2_with fail
      refine (make_any _).mono ?_
      rintro e w1 ⟨rfl, hb1, ht1⟩
      have hlt0 : w.heap.size < w0.heap.size := (Array.getElem?_eq_some_iff.1 hrow).1
      have hrow1 := (hb1.block w.heap.size hlt0).trans hrow
      clear hrow
      go_wp2_with first | (refine wpList_load_row rfl 25 (.tmp 5) rfl w.heap.size rfl 25 #[.int .i64 k, .int .i64 ch, .int .i64 bi, .int .i64 ra, .int .i64 bl, .int .i64 sh] (0, 0) _ hrow1 Tryd.underlying25 rfl (by kernel_rfl) ?_)
      refine (HB.out w0.heap.size w1 hb1 ht1).mono ?_
      rintro e w2 ⟨v, rfl, hv⟩
      obtain ⟨A2, c2, rfl, hs2, hA2, ho2, hb2⟩ := hv.parts
      have hc2 := own_cap ho2
      simp only at hs2 hc2
      have hb12 := hb1.trans (hb2.mono hb1.size)
      have hbw2 := hb.trans (hb12.mono hb.size)
      have ht2 : Tab w2 w0.heap.size := ht1.keep hb2 ht1.lt
      have hm2 := HMO.out.below hb12
      clear hb1 ht1 hrow1 hv hA2 ho2 hb2 HB
      by_cases hE : E = 0
      case neg =>
        have dE : (E != 0) = true := by simpa using hE
        clear HBT HPT HMO hs2 ht2 hm2 hE
        go_wp2_with fail
        refine (HKN.out _).mono ?_
        rintro e wz ⟨rfl, hbz⟩
        go_wp2_with fail
        go_ret
        exact ⟨rfl, hbw2.trans (hbz.mono hbw2.size)⟩
      subst hE
      obtain ⟨P1, P2, hL⟩ := HBT.out rfl
      have HP1 := hid P1
      have HP2 := hid P2
      clear HBT P1 P2
      by_cases h1 : 1 ≤ cut
      case neg =>
        have d1 : decide (1 ≤ cut) = false := decide_eq_false h1
        clear HP1 h1
        obtain ⟨M, hM⟩ : ∃ M, M = L ++ more := ⟨_, rfl⟩
        have HML := hid (show L.length + more.length = M.length by rw [hM, List.length_append])
        have HMM := hid (show L.map byteV ++ more.map byteV = M.map byteV by rw [hM, List.map_append])
        have HMP := hid (show (parseF M).1 = if more = [] then 0 else 62 by rw [hM]; exact HP2.out more)
        have HML2 := hid (show M.length ≤ 100100 by have := HML.out; omega)
        have hszz := Nat.le_refl (0 : Nat)
        clear hM HP2
        go_wp2_with (at_builtin; first
          | (refine wpList_app rfl (.tmp 66) (.tmp 67) _ rfl elB rfl (own_nil _ _ 1 5) A2 L.length c2 rfl (L.map byteV) hs2 (by simp) (byte_one L) L.length (by omega) (L.map byteV) rfl (by unfold maxLen; omega) (by omega) (Nat.le_refl _) ?_; intro A5 c5 w5 hown5 hgr5 hat5 hbel5)
          | (refine wpList_app rfl (.tmp 68) (.tmp 69) _ rfl elB rfl hown5 Am more.length cm rfl (more.map byteV) (SeesB.below (SeesB.below HMO.out hb12) hbel5) (by simp) (byte_one more) M.length HML.out (M.map byteV) HMM.out (by have := HML2.out; unfold maxLen; omega) (by have := HML2.out; omega) hbel5.size ?_; intro A6 c6 w6 hown6 hgr6 hat6 hbel6))
        have hb56 := hbel5.trans hbel6
        have hb6 := hb12.trans (hb56.mono hb12.size)
        have hbw6 := hb.trans (hb6.mono hb.size)
        have ht6 : Tab w6 w0.heap.size := ht2.keep hb56 ht2.lt
        have hs6 : SeesB w6 A6 M := own_sees hown6
        have hc6 := own_cap hown6
        have HPC := hid (fun E hE => HPT.out w0.heap.size A6 c6 M w6 hb6 ht6 hs6 hc6.1 hc6.2 (by have := HML2.out; omega) E hE)
        clear hown5 hown6 hgr5 hgr6 hat5 hat6 hbel5 hbel6 hb56 hb6 ht6 hs6 hc6 HML HMM HML2 HPT
        by_cases hM : more = []
        · have hM0 : more.length = 0 := by rw [hM]; rfl
          replace HPC := hid (HPC.out 0 (by rw [HMP.out, if_pos hM]))
          rw [hM0]
          clear HMP hM HMO hm100 hmc d100 d100'
          refine HPC.out.mono ?_
          rintro e w7 ⟨⟨vk, vch, vbi, vra, vbl, vsh, vcn, vsm, V1, V2, V3, s1, s2, s3, q1, q2, q3, rfl⟩, hb7⟩
          have hbw7 := hbw6.trans (hb7.mono hbw6.size)
          have hbw8 := hbw7.alloc hbw7.size (.cells #[.int .i64 vk, .int .i64 vch, .int .i64 vbi, .int .i64 vra, .int .i64 vbl, .int .i64 vsh, .slice V1 s1 q1, .slice V2 s2 q2, .int .i64 vcn, .int .u32 vsm, .slice V3 s3 q3] 45)
          clear hb7 HPC
          go_wp2_with fail
          refine (HKN.out _).mono ?_
          rintro e wz ⟨rfl, hbz⟩
          go_wp2_with fail
          go_ret
          exact ⟨rfl, hbw8.trans (hbz.mono hbw8.size)⟩
        · have hM0 : 0 < more.length := List.length_pos_iff.2 hM
          have e1 : ((more.length : Int) == 0) = false := by simpa using hM
          have e2 : (more.length == 0) = false := by simpa using hM
          have e3 : decide ((more.length : Int) = 0) = false := by simpa using hM
          replace HPC := hid (HPC.out 62 (by rw [HMP.out, if_neg hM]))
          clear HMP hM HMO hM0
          refine HPC.out.mono ?_
          rintro e w7 ⟨⟨vk, vch, vbi, vra, vbl, vsh, vcn, vsm, V1, V2, V3, s1, s2, s3, q1, q2, q3, rfl⟩, hb7⟩
          have hbw7 := hbw6.trans (hb7.mono hbw6.size)
          have hbw8 := hbw7.alloc hbw7.size (.cells #[.int .i64 vk, .int .i64 vch, .int .i64 vbi, .int .i64 vra, .int .i64 vbl, .int .i64 vsh, .slice V1 s1 q1, .slice V2 s2 q2, .int .i64 vcn, .int .u32 vsm, .slice V3 s3 q3] 45)
          clear hb7 HPC
          go_wp2_with fail
          refine (HKN.out _).mono ?_
          rintro e wz ⟨rfl, hbz⟩
          go_wp2_with fail
          go_ret
          exact ⟨rfl, hbw8.trans (hbz.mono hbw8.size)⟩
      have d1 : decide (1 ≤ cut) = true := decide_eq_true h1
      by_cases h2 : cut ≤ L.length
      case neg =>
        have d2 : decide (cut ≤ (L.length : Int)) = false := decide_eq_false h2
        clear HP1 h1 h2
        obtain ⟨M, hM⟩ : ∃ M, M = L ++ more := ⟨_, rfl⟩
        have HML := hid (show L.length + more.length = M.length by rw [hM, List.length_append])
        have HMM := hid (show L.map byteV ++ more.map byteV = M.map byteV by rw [hM, List.map_append])
        have HMP := hid (show (parseF M).1 = if more = [] then 0 else 62 by rw [hM]; exact HP2.out more)
        have HML2 := hid (show M.length ≤ 100100 by have := HML.out; omega)
        have hszz := Nat.le_refl (0 : Nat)
        clear hM HP2
        go_wp2_with (at_builtin; first
          | (refine wpList_app rfl (.tmp 66) (.tmp 67) _ rfl elB rfl (own_nil _ _ 1 5) A2 L.length c2 rfl (L.map byteV) hs2 (by simp) (byte_one L) L.length (by omega) (L.map byteV) rfl (by unfold maxLen; omega) (by omega) (Nat.le_refl _) ?_; intro A5 c5 w5 hown5 hgr5 hat5 hbel5)
          | (refine wpList_app rfl (.tmp 68) (.tmp 69) _ rfl elB rfl hown5 Am more.length cm rfl (more.map byteV) (SeesB.below (SeesB.below HMO.out hb12) hbel5) (by simp) (byte_one more) M.length HML.out (M.map byteV) HMM.out (by have := HML2.out; unfold maxLen; omega) (by have := HML2.out; omega) hbel5.size ?_; intro A6 c6 w6 hown6 hgr6 hat6 hbel6))
        have hb56 := hbel5.trans hbel6
        have hb6 := hb12.trans (hb56.mono hb12.size)
        have hbw6 := hb.trans (hb6.mono hb.size)
        have ht6 : Tab w6 w0.heap.size := ht2.keep hb56 ht2.lt
        have hs6 : SeesB w6 A6 M := own_sees hown6
        have hc6 := own_cap hown6
        have HPC := hid (fun E hE => HPT.out w0.heap.size A6 c6 M w6 hb6 ht6 hs6 hc6.1 hc6.2 (by have := HML2.out; omega) E hE)
        clear hown5 hown6 hgr5 hgr6 hat5 hat6 hbel5 hbel6 hb56 hb6 ht6 hs6 hc6 HML HMM HML2 HPT
        by_cases hM : more = []
        · have hM0 : more.length = 0 := by rw [hM]; rfl
          replace HPC := hid (HPC.out 0 (by rw [HMP.out, if_pos hM]))
          rw [hM0]
          clear HMP hM HMO hm100 hmc d100 d100'
          refine HPC.out.mono ?_
          rintro e w7 ⟨⟨vk, vch, vbi, vra, vbl, vsh, vcn, vsm, V1, V2, V3, s1, s2, s3, q1, q2, q3, rfl⟩, hb7⟩
          have hbw7 := hbw6.trans (hb7.mono hbw6.size)
          have hbw8 := hbw7.alloc hbw7.size (.cells #[.int .i64 vk, .int .i64 vch, .int .i64 vbi, .int .i64 vra, .int .i64 vbl, .int .i64 vsh, .slice V1 s1 q1, .slice V2 s2 q2, .int .i64 vcn, .int .u32 vsm, .slice V3 s3 q3] 45)
          clear hb7 HPC
          go_wp2_with fail
          refine (HKN.out _).mono ?_
          rintro e wz ⟨rfl, hbz⟩
          go_wp2_with fail
          go_ret
          exact ⟨rfl, hbw8.trans (hbz.mono hbw8.size)⟩
        · have hM0 : 0 < more.length := List.length_pos_iff.2 hM
          have e1 : ((more.length : Int) == 0) = false := by simpa using hM
          have e2 : (more.length == 0) = false := by simpa using hM
          have e3 : decide ((more.length : Int) = 0) = false := by simpa using hM
          replace HPC := hid (HPC.out 62 (by rw [HMP.out, if_neg hM]))
          clear HMP hM HMO hM0
          refine HPC.out.mono ?_
          rintro e w7 ⟨⟨vk, vch, vbi, vra, vbl, vsh, vcn, vsm, V1, V2, V3, s1, s2, s3, q1, q2, q3, rfl⟩, hb7⟩
          have hbw7 := hbw6.trans (hb7.mono hbw6.size)
          have hbw8 := hbw7.alloc hbw7.size (.cells #[.int .i64 vk, .int .i64 vch, .int .i64 vbi, .int .i64 vra, .int .i64 vbl, .int .i64 vsh, .slice V1 s1 q1, .slice V2 s2 q2, .int .i64 vcn, .int .u32 vsm, .slice V3 s3 q3] 45)
          clear hb7 HPC
          go_wp2_with fail
          refine (HKN.out _).mono ?_
          rintro e wz ⟨rfl, hbz⟩
          go_wp2_with fail
          go_ret
          exact ⟨rfl, hbw8.trans (hbz.mono hbw8.size)⟩
      have d2 : decide (cut ≤ (L.length : Int)) = true := decide_eq_true h2
      obtain ⟨p, hp⟩ : ∃ p : Nat, (L.length : Int) - cut = (p : Int) := ⟨((L.length : Int) - cut).toNat, by omega⟩
      have hwr : wrap64 ((L.length : Int) - cut) = (p : Int) := by unfold wrap64; omega
      have hpl : p < L.length := by omega
      have b1 : (p : Int) ≤ c2 := by have := hc2.1; omega
      have hT10 := HP1.out p hpl
      have hsT : SeesB w2 A2 (L.take p) := by
        have h3 := Sees.take (show Sees w2 A2 (L.map byteV) from hs2) p
        rw [← List.map_take] at h3
        exact h3
      have hTl : (L.take p).length = p := by rw [List.length_take]; omega
      have HPC := hid (HPT.out w0.heap.size A2 c2 (L.take p) w2 hb12 ht2 hsT (by omega) hc2.2 (by omega) 10 hT10)
      rw [hTl] at HPC
      clear HP1 hT10 hsT hTl hp hpl h1 h2
      go_wp2_with fail
      refine HPC.out.mono ?_
      rintro e w3 ⟨⟨xk, xch, xbi, xra, xbl, xsh, xcn, xsm, X1, X2, X3, y1, y2, y3, z1, z2, z3, rfl⟩, hb3⟩
      clear HPC
      have hs3 := SeesB.below hs2 hb3
      have ht3 := ht2.keep hb3 ht2.lt
      have hm3 := hm2.below hb3
      have hbw3 := hbw2.trans (hb3.mono hbw2.size)
      have hb13 := hb12.trans (hb3.mono hb12.size)
      clear hb3 hs2 ht2 hm2 hbw2 hb12
      have hba : Below w3.heap.size w3 (w3.alloc (.cells #[.int .i64 xk, .int .i64 xch, .int .i64 xbi, .int .i64 xra, .int .i64 xbl, .int .i64 xsh, .slice X1 y1 z1, .slice X2 y2 z2, .int .i64 xcn, .int .u32 xsm, .slice X3 y3 z3] 45)) := (Below.refl _ _).alloc (Nat.le_refl _) _
      have hs4 := SeesB.below hs3 hba
      have ht4 := ht3.keep hba ht3.lt
      have hm4 := hm3.below hba
      have hbw4 := hbw3.trans (hba.mono hbw3.size)
      have hb14 := hb13.trans (hba.mono hb13.size)
      clear hba hs3 ht3 hm3 hbw3 hb13
      obtain ⟨M, hM⟩ : ∃ M, M = L ++ more := ⟨_, rfl⟩
      have HML := hid (show L.length + more.length = M.length by rw [hM, List.length_append])
      have HMM := hid (show L.map byteV ++ more.map byteV = M.map byteV by rw [hM, List.map_append])
      have HMP := hid (show (parseF M).1 = if more = [] then 0 else 62 by rw [hM]; exact HP2.out more)
      have HML2 := hid (show M.length ≤ 100100 by have := HML.out; omega)
      have hszz := Nat.le_refl (0 : Nat)
      clear hM HP2
      go_wp2_with (at_builtin; first
        | (refine wpList_app rfl (.tmp 66) (.tmp 67) _ rfl elB rfl (own_nil _ _ 1 5) A2 L.length c2 rfl (L.map byteV) hs4 (by simp) (byte_one L) L.length (by omega) (L.map byteV) rfl (by unfold maxLen; omega) (by omega) (Nat.le_refl _) ?_; intro A5 c5 w5 hown5 hgr5 hat5 hbel5)
        | (refine wpList_app rfl (.tmp 68) (.tmp 69) _ rfl elB rfl hown5 Am more.length cm rfl (more.map byteV) (SeesB.below (SeesB.below HMO.out hb14) hbel5) (by simp) (byte_one more) M.length HML.out (M.map byteV) HMM.out (by have := HML2.out; unfold maxLen; omega) (by have := HML2.out; omega) hbel5.size ?_; intro A6 c6 w6 hown6 hgr6 hat6 hbel6))
      have hb56 := hbel5.trans hbel6
      have hb6 := hb14.trans (hb56.mono hb14.size)
      have hbw6 := hb.trans (hb6.mono hb.size)
      have ht6 : Tab w6 w0.heap.size := ht4.keep hb56 ht4.lt
      have hs6 : SeesB w6 A6 M := own_sees hown6
      have hc6 := own_cap hown6
      have HPC := hid (fun E hE => HPT.out w0.heap.size A6 c6 M w6 hb6 ht6 hs6 hc6.1 hc6.2 (by have := HML2.out; omega) E hE)
      clear hown5 hown6 hgr5 hgr6 hat5 hat6 hbel5 hbel6 hb56 hb6 ht6 hs6 hc6 HML HMM HML2 HPT
      by_cases hM : more = []
      · have hM0 : more.length = 0 := by rw [hM]; rfl
        replace HPC := hid (HPC.out 0 (by rw [HMP.out, if_pos hM]))
        rw [hM0]
        clear HMP hM HMO hm100 hmc d100 d100'
        refine HPC.out.mono ?_
        rintro e w7 ⟨⟨vk, vch, vbi, vra, vbl, vsh, vcn, vsm, V1, V2, V3, s1, s2, s3, q1, q2, q3, rfl⟩, hb7⟩
        have hbw7 := hbw6.trans (hb7.mono hbw6.size)
        have hbw8 := hbw7.alloc hbw7.size (.cells #[.int .i64 vk, .int .i64 vch, .int .i64 vbi, .int .i64 vra, .int .i64 vbl, .int .i64 vsh, .slice V1 s1 q1, .slice V2 s2 q2, .int .i64 vcn, .int .u32 vsm, .slice V3 s3 q3] 45)
        clear hb7 HPC
        go_wp2_with fail
        refine (HKN.out _).mono ?_
        rintro e wz ⟨rfl, hbz⟩
        go_wp2_with fail
        go_ret
        exact ⟨rfl, hbw8.trans (hbz.mono hbw8.size)⟩
      · have hM0 : 0 < more.length := List.length_pos_iff.2 hM
        have e1 : ((more.length : Int) == 0) = false := by simpa using hM
        have e2 : (more.length == 0) = false := by simpa using hM
        have e3 : decide ((more.length : Int) = 0) = false := by simpa using hM
        replace HPC := hid (HPC.out 62 (by rw [HMP.out, if_neg hM]))
        clear HMP hM HMO hM0
        refine HPC.out.mono ?_
        rintro e w7 ⟨⟨vk, vch, vbi, vra, vbl, vsh, vcn, vsm, V1, V2, V3, s1, s2, s3, q1, q2, q3, rfl⟩, hb7⟩
        have hbw7 := hbw6.trans (hb7.mono hbw6.size)
        have hbw8 := hbw7.alloc hbw7.size (.cells #[.int .i64 vk, .int .i64 vch, .int .i64 vbi, .int .i64 vra, .int .i64 vbl, .int .i64 vsh, .slice V1 s1 q1, .slice V2 s2 q2, .int .i64 vcn, .int .u32 vsm, .slice V3 s3 q3] 45)
        clear hb7 HPC
        go_wp2_with fail
        refine (HKN.out _).mono ?_
        rintro e wz ⟨rfl, hbz⟩
        go_wp2_with fail
        go_ret
        exact ⟨rfl, hbw8.trans (hbz.mono hbw8.size)⟩
end fileCuts
end Go.Proofs.YtkmhmehofipehaaDoor
/- The walk of FileBack. -/
namespace Go.Proofs.YtkmhmehofipehaaDoor
set_option linter.unusedVariables false
open Go.RowKit
theorem buildF_bad {i : InfoV} {l : List TagV} {bs : List (List UInt8)} {sum : Nat} (h : (buildF i l bs sum).1 ≠ 0) : (buildF i l bs sum).2 = [] := by
  unfold buildF at h ⊢
  by_cases h1 : i.right = false
  · rw [if_pos h1]
  · rw [if_neg h1] at h ⊢
    by_cases h2 : (checkT l).2 ≠ 0
    · rw [if_pos h2]
    · rw [if_neg h2] at h ⊢
      unfold endF at h ⊢
      by_cases h3 : (addAll i bs (startF i l)).1 ≠ 0
      · rw [if_pos h3]
      · rw [if_neg h3] at h; exact absurd rfl h
theorem elBB : Elem Tryd.prog 27 32 1 24 := Elem.mk' Tryd.underlying27 (z := .slice none 0 0) (by kernel_rfl) rfl (by omega)
/-- a struct by value out of wherever it lies -/
theorem run_load_any {P : Program} {a : Act} {o : Oper} {w : World} (ty : TypeId) (x : Operand) (ho : o.op = .load ty x) (p : Addr) (hx : a.eval x = .pointer (some p)) (cs : Array Value) (d : TypeDesc)
    (hc : ∀ (j : Nat) (v : Value), cs.toList[j]? = some v → w.cell? (p.add j) = some v) (hu : P.underlying ty = some d) (hd : d.isRow = true) (hi : (P.info? ty).map (·.size) = some cs.size) :
    (execOp a.eval o).run P w = .ok (.value (.agg cs)) w := by
  have hl := run_loadCells_list (P := P) w p cs.toList hc
  rw [Array.length_toList] at hl
  have h : (loadVar ty p).run P w = .ok (.agg cs) w := by
    cases hq : P.info? ty with
    | none => simp [hq] at hi
    | some i =>
      have hs : i.size = cs.size := by simpa [hq] using hi
      have hagg : (isAgg ty).run P w = .ok true w := by
        unfold isAgg
        rw [Sem.run_bind, run_underlying hu w]
        cases d <;> simp_all
      simp [loadVar, Sem.run_bind, hagg, sizeOf, typeInfo, hq, hs, hl]
  unfold execOp
  simp only [ho, hx, Instr.loadAt, Instr.sureAddr, Sem.run_bind, Sem.run_pure, Result.andThen_ok, h]
/-- slices of bytes, each in a row of its own -/
def OwnK (w : World) (base : Nat) (K : List BlkV) : Prop := ∀ x ∈ K, w.ownsRow base 5 1 x.v x.l.length (x.l.map byteV)
theorem OwnK.below {w w' : World} {base : Nat} {K : List BlkV} (h : OwnK w base K) (hb : Below w.heap.size w w') : OwnK w' base K := fun x hx => own_keepF (h x hx) hb
theorem OwnK.but {w w' : World} {base n : Nat} {K : List BlkV} {v : Value} {xs : List Value} (h : OwnK w base K) (hv : w.ownsRow base 32 1 v n xs) (hb : But (fun b => v.ownBlock = some b) w w') : OwnK w' base K :=
  fun x hx => own_but (h x hx) hb (fun k hk => own_apart (h x hx) hv (by decide) k hk)
theorem OwnK.sees {w : World} {base n c : Nat} {A : Option Addr} {K : List BlkV} (h : OwnK w base K) (hv : w.ownsRow base 32 1 (.slice A n c) n (K.map BlkV.v)) : SeesK w A K :=
  ⟨own_sees hv, fun x hx => ⟨own_sees (show w.ownsRow base 5 1 (.slice x.A x.l.length x.c) x.l.length (x.l.map byteV) from h x hx), (own_cap (show w.ownsRow base 5 1 (.slice x.A x.l.length x.c) x.l.length (x.l.map byteV) from h x hx)).1, (own_cap (show w.ownsRow base 5 1 (.slice x.A x.l.length x.c) x.l.length (x.l.map byteV) from h x hx)).2⟩⟩
theorem blk_cells {w : World} {A : Option Addr} {L : List BlkM} {k : Nat} {x : BlkM} (h : Sees w A (flatM L)) (hx : L[k]? = some x) : ∃ a, A = some a ∧ ∀ (j : Nat) (v : Value), x.cells[j]? = some v → w.cell? ((a.add (k * 11)).add j) = some v := by
  obtain ⟨hk, rfl⟩ := List.getElem?_eq_some_iff.1 hx
  have h0 := flatM_at L k hk 0 (by omega)
  rw [show (L[k].cells)[0]? = some (.int .i64 L[k].h.k) from rfl] at h0
  obtain ⟨a, ha, _⟩ := h _ _ h0
  refine ⟨a, ha, fun j v hv => ?_⟩
  have hj : j < 11 := (List.getElem?_eq_some_iff.1 hv).1
  obtain ⟨a', ha', hc⟩ := h _ v ((flatM_at L k hk j hj).trans hv)
  rw [ha] at ha'
  injection ha' with ha'
  subst ha'
  rw [addr_add]
  exact hc
theorem cut_facts (p n L c : Nat) (h1 : p + n ≤ L) (h2 : L ≤ 100000) (h3 : L ≤ c) (h4 : 36 ≤ n) :
    wrap64 ((p : Int) + (n : Int)) = (p : Int) + (n : Int) ∧ IntKind.i64.wrap ((p : Int) + (n : Int)) = (p : Int) + (n : Int) ∧ ¬ c = p ∧ (0 : Int) ≤ (p : Int) + (n : Int) ∧ p ≤ ((p : Int) + (n : Int)).toNat ∧ (p : Int) + (n : Int) ≤ (c : Int) ∧ ((p : Int) + (n : Int)).toNat - p = n :=
  ⟨by unfold wrap64; omega, by rw [IntKind.wrap_i64]; omega, by omega, by omega, by omega, by omega, by omega⟩
theorem round_facts (k n : Nat) (h : k < n) (hn : n ≤ 12) : Value.int .i64 (wrap64 ((k : Int) + 1)) = .int .i64 ((k + 1 : Nat) : Int) ∧ n - (intOf (Value.int .i64 (wrap64 ((k : Int) + 1)))).toNat < n - (intOf (Value.int .i64 (k : Int))).toNat := by
  have h1 : wrap64 ((k : Int) + 1) = (k : Int) + 1 := by unfold wrap64; omega
  rw [h1]
  refine ⟨rfl, ?_⟩
  show n - ((k : Int) + 1).toNat < n - ((k : Int)).toNat
  omega
theorem sameT_self (l : List TagV) : sameT l l = true := decide_eq_true rfl
namespace fileBack
set_option maxRecDepth 20000 in
set_option maxHeartbeats 16000000 in
theorem walk (k ch bi ra bl sh : Int) (A : Option Addr) (c : Nat) (l : List TagV) (B : Option Addr) (d : Nat) (bs : List BlkV) (sum : Int) (w : World) (h : SeesT w A l ∧ l.length ≤ c ∧ c ≤ maxLen) (h' : SeesK w B bs ∧ bs.length ≤ d ∧ d ≤ maxLen) (hsm : 0 ≤ sum ∧ sum < 4294967296) (hT : Tabs w) :
    Calls Tryd.prog 4 #[.agg #[.int .i64 k, .int .i64 ch, .int .i64 bi, .int .i64 ra, .int .i64 bl, .int .i64 sh], .slice A l.length c, .slice B bs.length d, .int .u32 sum] w fun e w' => e = .returned (.bool true) ∧ Below w.heap.size w w' := by
  obtain ⟨hl, hlc, hc⟩ := h
  obtain ⟨hk, hkc, hkd⟩ := h'
  obtain ⟨N, rfl⟩ := Int.eq_ofNat_of_zero_le hsm.1
  have hsum : N < 4294967296 := by omega
  clear hsm
  have HKN := hid known_any
  have hb : Below w.heap.size w (w.alloc (.cells #[.int .i64 k, .int .i64 ch, .int .i64 bi, .int .i64 ra, .int .i64 bl, .int .i64 sh] 25)) := (Below.refl _ w).alloc (Nat.le_refl _) _
  have hrow := heap_alloc_new w (.cells #[.int .i64 k, .int .i64 ch, .int .i64 bi, .int .i64 ra, .int .i64 bl, .int .i64 sh] 25)
  have hl0 := hl.below hb
  have hk0 := hk.below hb
  have hT0 := hT.below hb
  clear hl hk hT
  go_enter Tryd.func4, Tryd.ntmps4
  go_wp2_with fail
  generalize w.alloc (.cells #[.int .i64 k, .int .i64 ch, .int .i64 bi, .int .i64 ra, .int .i64 bl, .int .i64 sh] 25) = w0 at *
  refine (fewT_any A c l w0 hl0 ⟨hlc, hc⟩).mono ?_
  rintro e w1 ⟨b, rfl, rfl, hfl⟩
  cases b with
  | false =>
    clear hfl hl0 hk0 hT0 hrow
    go_wp2_with fail
    refine (HKN.out _).mono ?_
    rintro e wz ⟨rfl, hbz⟩
    go_wp2_with fail
    go_ret
    exact ⟨rfl, hb.trans (hbz.mono hb.size)⟩
  | true =>
    obtain ⟨n1, s1⟩ := hfl rfl
    clear hfl
    go_wp2_with fail
    refine (fewK_any B d bs w0 hk0 ⟨hkc, hkd⟩).mono ?_
    rintro e w1 ⟨b, rfl, rfl, hfk⟩
    cases b with
    | false =>
      clear hfk hl0 hk0 hT0 hrow
      go_wp2_with fail
      refine (HKN.out _).mono ?_
      rintro e wz ⟨rfl, hbz⟩
      go_wp2_with fail
      go_ret
      exact ⟨rfl, hb.trans (hbz.mono hb.size)⟩
    | true =>
      obtain ⟨n2, s2⟩ := hfk rfl
      clear hfk
      have hlm : l.length ≤ maxLen := Nat.le_trans hlc hc
      have hBr := brief_few2 s1
      have h300 : ∀ b ∈ bs.map BlkV.l, b.length ≤ 300 := by
        intro b hb
        obtain ⟨x, hx, rfl⟩ := List.mem_map.1 hb
        exact s2 x hx
      have HB := hid (fun g W (hb : Below w0.heap.size w0 W) (ht : Tab W g) => build_any g ⟨k, ch, bi, ra, bl, sh⟩ A c l B d bs N W ht (hl0.below hb) hlc hlm hBr (hT0.below hb) (hk0.below hb) n2 s2 hsum)
      have HB2 := hid (fun g W At ct Ak ck (K : List BlkV) (hb : Below w0.heap.size w0 W) (ht : Tab W g) (hsT : SeesT W At l) (h1 : l.length ≤ ct) (hsK : SeesK W Ak K) (hKl : K.map BlkV.l = bs.map BlkV.l) => show Calls Tryd.prog _ _ W (BPost W (buildF ⟨k, ch, bi, ra, bl, sh⟩ l (bs.map BlkV.l) N)) from by
        rw [← hKl]
        have hKn : K.length = bs.length := by have := congrArg List.length hKl; simpa using this
        exact build_any g ⟨k, ch, bi, ra, bl, sh⟩ At ct l Ak ck K N W ht hsT h1 hlm hBr (hT0.below hb) hsK (by omega) (fun x hx => h300 _ (by rw [← hKl]; exact List.mem_map_of_mem hx)) hsum)
      have HBT := hid (fun (hz : (buildF ⟨k, ch, bi, ra, bl, sh⟩ l (bs.map BlkV.l) N).1 = 0) => (show ∃ s, Built ⟨k, ch, bi, ra, bl, sh⟩ l (bs.map BlkV.l) N (buildF ⟨k, ch, bi, ra, bl, sh⟩ l (bs.map BlkV.l) N).2 s ∧ (buildF ⟨k, ch, bi, ra, bl, sh⟩ l (bs.map BlkV.l) N).2.length ≤ 100000 from by
        obtain ⟨s, hs⟩ := built_of hz (by simpa using n2) h300 hsum
        exact ⟨s, hs, hs.len (by simpa using n2) h300⟩))
      have HBN := hid (buildF_bad (i := ⟨k, ch, bi, ra, bl, sh⟩) (l := l) (bs := bs.map BlkV.l) (sum := N))
      generalize buildF ⟨k, ch, bi, ra, bl, sh⟩ l (bs.map BlkV.l) N = RR at *
      obtain ⟨E, L⟩ := RR
      simp only at HBT HBN
      unfold InfoV.v at HB HB2
      (try simp only at HB)
      (try simp only at HB2)
      have HPT := hid (fun g A c b W (hb : Below w0.heap.size w0 W) (ht : Tab W g) (hs : SeesB W A b) h1 h2 h3 => parse_any g A c b W ⟨ht, hs, ⟨h1, h2⟩, hT0.below hb, h3⟩)
      have HL0 := hid hl0
      have HK0 := hid hk0
      have HLM := hid hlm
      clear hl0 hk0 hT0 hBr s1 s2 h300 n1 hlm
      have HN2 := hid n2
      clear n2
      go_wp2_with fail
      refine (make_any _).mono ?_
      rintro e w1 ⟨rfl, hb1, ht1⟩
      have hlt0 : w.heap.size < w0.heap.size := (Array.getElem?_eq_some_iff.1 hrow).1
      have hrow1 := (hb1.block w.heap.size hlt0).trans hrow
      clear hrow
      go_wp2_with first | (refine wpList_load_row rfl 25 (.tmp 4) rfl w.heap.size rfl 25 #[.int .i64 k, .int .i64 ch, .int .i64 bi, .int .i64 ra, .int .i64 bl, .int .i64 sh] (0, 0) _ hrow1 Tryd.underlying25 rfl (by kernel_rfl) ?_)
      refine (HB.out w0.heap.size w1 hb1 ht1).mono ?_
      rintro e w2 ⟨v, rfl, hv⟩
      obtain ⟨A2, c2, rfl, hs2, hA2, ho2, hb2⟩ := hv.parts
      have hc2 := own_cap ho2
      simp only at hs2 hc2
      have hb12 := hb1.trans (hb2.mono hb1.size)
      have hbw2 := hb.trans (hb12.mono hb.size)
      have ht2 : Tab w2 w0.heap.size := ht1.keep hb2 ht1.lt
      have hrow2 := (hb2.block w.heap.size (Nat.lt_of_lt_of_le hlt0 hb1.size)).trans hrow1
      clear hb1 ht1 hrow1 hv hA2 ho2 hb2 HB
      by_cases hE : E = 0
      case neg =>
        have dE : (E != 0) = true := by simpa using hE
        obtain rfl : L = [] := HBN.out hE
        clear HBT HPT HL0 HK0 hs2 ht2 hE hrow2 HB2 HLM HN2 hc2 HBN
        go_wp2_with fail
        refine (HKN.out _).mono ?_
        rintro e wz ⟨rfl, hbz⟩
        go_wp2_with fail
        go_ret
        exact ⟨rfl, hbw2.trans (hbz.mono hbw2.size)⟩
      subst hE
      obtain ⟨s, hBT, hL⟩ := HBT.out rfl
      have hPF : parseF L = (0, FileV.built ⟨k, ch, bi, ra, bl, sh⟩ l (bs.map BlkV.l) N s) := by
        have h3 := parse_built hBT []
        rw [List.append_nil, if_pos rfl] at h3
        exact h3
      have HSL := hid (fun kk (hkk : kk < (bs.map BlkV.l).length) => hBT.seal hkk)
      have HBK := hid (fun kk (hkk : kk < (bs.map BlkV.l).length) => hBT.block hkk)
      have hbln : (FileV.built ⟨k, ch, bi, ra, bl, sh⟩ l (bs.map BlkV.l) N s).bl.length = bs.length := by
        show (readB _ _).length = _
        rw [readB_len, List.length_map]
      have HPC := hid (HPT.out w0.heap.size A2 c2 L w2 hb12 ht2 hs2 hc2.1 hc2.2 (by omega))
      rw [hPF] at HPC
      unfold ParsePost at HPC
      clear HBT hPF HPT hBT HBN
      generalize hfb : (FileV.built ⟨k, ch, bi, ra, bl, sh⟩ l (bs.map BlkV.l) N s).bl = FB at *
      unfold FileV.built at HPC hfb
      simp only at hfb
      (try simp only at HPC)
      clear hfb
      generalize s.cnt = tcn at *
      generalize s.pl = tpl at *
      go_wp2_with fail
      refine HPC.out.mono ?_
      rintro e w3 ⟨At, ct, Ak, ck, Ax, cx, LL, rfl, hsT, hct, hsA, hpl, hpay, hlk, hckm, hsx, hcx, hcxm, hb3⟩
      generalize tpl.length = tnp at *
      have hLb : LL.length = bs.length := by rw [← hbln, hpl, List.length_map]
      rw [hLb] at hlk ⊢
      have hs3 := SeesB.below hs2 hb3
      have ht3 := ht2.keep hb3 ht2.lt
      have hrow3 := (hb3.block w.heap.size (Nat.lt_of_lt_of_le hlt0 hb12.size)).trans hrow2
      have HLT := hid (show w.heap.size < w3.heap.size from (Array.getElem?_eq_some_iff.1 hrow3).1)
      have hbw3 := hbw2.trans (hb3.mono hbw2.size)
      have hb13 := hb12.trans (hb3.mono hb12.size)
      clear hb3 hs2 ht2 hbw2 hb12 hrow2 HPC hsx
      have hba : Below w3.heap.size w3 (w3.alloc (.cells #[.int .i64 k, .int .i64 ch, .int .i64 bi, .int .i64 ra, .int .i64 bl, .int .i64 sh, .slice At l.length ct, .slice Ak bs.length ck, .int .i64 tcn, .int .u32 (N : Nat), .slice Ax tnp cx] 45)) := (Below.refl _ _).alloc (Nat.le_refl _) _
      have hgx := heap_alloc_new w3 (.cells #[.int .i64 k, .int .i64 ch, .int .i64 bi, .int .i64 ra, .int .i64 bl, .int .i64 sh, .slice At l.length ct, .slice Ak bs.length ck, .int .i64 tcn, .int .u32 (N : Nat), .slice Ax tnp cx] 45)
      have hs4 := SeesB.below hs3 hba
      have ht4 := ht3.keep hba ht3.lt
      have hrow4 := (hba.block w.heap.size (Array.getElem?_eq_some_iff.1 hrow3).1).trans hrow3
      have hbw4 := hbw3.trans (hba.mono hbw3.size)
      have hb14 := hb13.trans (hba.mono hb13.size)
      have hsT4 := hsT.below hba
      have hsA4 := Sees.below hsA hba
      have hpay4 : ∀ x ∈ LL, SeesB (w3.alloc (.cells #[.int .i64 k, .int .i64 ch, .int .i64 bi, .int .i64 ra, .int .i64 bl, .int .i64 sh, .slice At l.length ct, .slice Ak bs.length ck, .int .i64 tcn, .int .u32 (N : Nat), .slice Ax tnp cx] 45)) x.A x.p ∧ x.p.length ≤ x.c ∧ x.c ≤ maxLen := fun x hx => ⟨SeesB.below (hpay x hx).1 hba, (hpay x hx).2⟩
      clear hba hs3 ht3 hrow3 hbw3 hb13 hsT hsA hpay
      have hq : ∀ W, (Op.equalIn 10000 25 (.agg #[.int .i64 k, .int .i64 ch, .int .i64 bi, .int .i64 ra, .int .i64 bl, .int .i64 sh]) (.agg #[.int .i64 k, .int .i64 ch, .int .i64 bi, .int .i64 ra, .int .i64 bl, .int .i64 sh])).run Tryd.prog W = .ok true W := fun W => by rw [eq_info]; unfold sameI sameF; simp
      have hn1 : ((N : Int) != (N : Int)) = false := by simp
      have hn2 : (bs.length != bs.length) = false := by simp
      have HLB := hid hLb
      clear hLb
      go_upto_region 8 with fail
      have hgm := HLT.out
      clear HLT
      generalize w3.heap.size = gx at *
      generalize w3.alloc (.cells #[.int .i64 k, .int .i64 ch, .int .i64 bi, .int .i64 ra, .int .i64 bl, .int .i64 sh, .slice At l.length ct, .slice Ak bs.length ck, .int .i64 tcn, .int .u32 (N : Nat), .slice Ax tnp cx] 45) = w4 at *
      have ic0 : w4.cell? ⟨w.heap.size, 0, none⟩ = some (.int .i64 k) := by rw [cell_of_row _ _ _ _ _ _ hrow4]; rfl
      have ic1 : w4.cell? ⟨w.heap.size, 1, none⟩ = some (.int .i64 ch) := by rw [cell_of_row _ _ _ _ _ _ hrow4]; rfl
      have ic2 : w4.cell? ⟨w.heap.size, 2, none⟩ = some (.int .i64 bi) := by rw [cell_of_row _ _ _ _ _ _ hrow4]; rfl
      have ic3 : w4.cell? ⟨w.heap.size, 3, none⟩ = some (.int .i64 ra) := by rw [cell_of_row _ _ _ _ _ _ hrow4]; rfl
      have ic4 : w4.cell? ⟨w.heap.size, 4, none⟩ = some (.int .i64 bl) := by rw [cell_of_row _ _ _ _ _ _ hrow4]; rfl
      have ic5 : w4.cell? ⟨w.heap.size, 5, none⟩ = some (.int .i64 sh) := by rw [cell_of_row _ _ _ _ _ _ hrow4]; rfl
      have g0 : w4.cell? ⟨gx, 0, none⟩ = some (.int .i64 k) := by rw [cell_of_row _ _ _ _ _ _ hgx]; rfl
      have g1 : w4.cell? ⟨gx, 1, none⟩ = some (.int .i64 ch) := by rw [cell_of_row _ _ _ _ _ _ hgx]; rfl
      have g2 : w4.cell? ⟨gx, 2, none⟩ = some (.int .i64 bi) := by rw [cell_of_row _ _ _ _ _ _ hgx]; rfl
      have g3 : w4.cell? ⟨gx, 3, none⟩ = some (.int .i64 ra) := by rw [cell_of_row _ _ _ _ _ _ hgx]; rfl
      have g4 : w4.cell? ⟨gx, 4, none⟩ = some (.int .i64 bl) := by rw [cell_of_row _ _ _ _ _ _ hgx]; rfl
      have g5 : w4.cell? ⟨gx, 5, none⟩ = some (.int .i64 sh) := by rw [cell_of_row _ _ _ _ _ _ hgx]; rfl
      have g6 : w4.cell? ⟨gx, 6, none⟩ = some (.slice At l.length ct) := by rw [cell_of_row _ _ _ _ _ _ hgx]; rfl
      have g7 : w4.cell? ⟨gx, 7, none⟩ = some (.slice Ak bs.length ck) := by rw [cell_of_row _ _ _ _ _ _ hgx]; rfl
      have g8 : w4.cell? ⟨gx, 8, none⟩ = some (.int .i64 tcn) := by rw [cell_of_row _ _ _ _ _ _ hgx]; rfl
      have g9 : w4.cell? ⟨gx, 9, none⟩ = some (.int .u32 (N : Nat)) := by rw [cell_of_row _ _ _ _ _ _ hgx]; rfl
      go_wp2_with fail
      refine (rsameT_any At A ct c l l w4 hsT4 (HL0.out.below hb14) HLM.out HLM.out).mono ?_
      rintro e w5 ⟨rfl, hb5⟩
      rw [sameT_self]
      have c7 : w5.cell? ⟨gx, 7, none⟩ = some (.slice Ak bs.length ck) := keep1 hb5 g7
      have c9 : w5.cell? ⟨gx, 9, none⟩ = some (.int .u32 (N : Nat)) := keep1 hb5 g9
      have k0 := keep1 hb5 g0
      have k1 := keep1 hb5 g1
      have k2 := keep1 hb5 g2
      have k3 := keep1 hb5 g3
      have k4 := keep1 hb5 g4
      have k5 := keep1 hb5 g5
      have k6 := keep1 hb5 g6
      have hs5 := SeesB.below hs4 hb5
      have ht5 := ht4.keep hb5 ht4.lt
      have hbw5 := hbw4.trans (hb5.mono hbw4.size)
      have hb15 := hb14.trans (hb5.mono hb14.size)
      have hsT5 := hsT4.below hb5
      have hsA5 := Sees.below hsA4 hb5
      have hpay5 : ∀ x ∈ LL, SeesB w5 x.A x.p ∧ x.p.length ≤ x.c ∧ x.c ≤ maxLen := fun x hx => ⟨SeesB.below (hpay4 x hx).1 hb5, (hpay4 x hx).2⟩
      have hk5 := HK0.out.below hb15
      clear hb5 hs4 ht4 hbw4 hb14 hsT4 hsA4 hpay4 hq hgx hrow4 hlt0 hgm HL0 HK0 ic0 ic1 ic2 ic3 ic4 ic5 g0 g1 g2 g3 g4 g5 g6 g7 g8 g9
      go_wp2_with fail
      go_loopw [14, 15] (fun q n wr => ∃ (kk : Nat) (Ag : Option Addr) (cg : Nat) (KK : List BlkV), kk ≤ bs.length ∧ n = .int .i64 kk ∧ q = .slice Ag kk cg ∧ wr.ownsRow w5.heap.size 32 1 (.slice Ag kk cg) kk (KK.map BlkV.v) ∧ OwnK wr w5.heap.size KK ∧ Hid (KK.map BlkV.l = (bs.map BlkV.l).take kk) ∧ Below w5.heap.size w5 wr) (fun _ n _ => bs.length - (intOf n).toNat)
      case atStart => exact ⟨0, none, 0, [], Nat.zero_le _, rfl, rfl, own_nil _ _ _ _, (fun x hx => by simp at hx), hid (by simp), Below.refl _ _⟩
      case round =>
        obtain ⟨kk, Ag, cg, KK, hkk, rfl, rfl, hown, hOK, HKM, hbr⟩ := hrel
        have c7r := keep1 hbr c7
        by_cases hlt : kk < bs.length
        · have dk : decide (kk < bs.length) = true := decide_eq_true hlt
          obtain ⟨K, IX, LE, ST, BN, LK, lst, P, hfb, hkb, hpl36, hrt, hsl⟩ := HSL.out kk (by simpa using hlt)
          obtain ⟨hcut, hcutl⟩ := HBK.out kk (by simpa using hlt)
          obtain ⟨S, hS⟩ : ∃ S, S = sumI (sealed (headHead K lst IX LE ST BN LK P.length) ++ P) := ⟨_, rfl⟩
          obtain ⟨T, hT⟩ : ∃ T, T = (startF ⟨k, ch, bi, ra, bl, sh⟩ l).out.length + ((bs.map BlkV.l).take kk).flatten.length := ⟨_, rfl⟩
          rw [← hS, ← hT] at hfb
          rw [← hT] at hcut hcutl
          rw [hpl, List.getElem?_map] at hfb
          obtain ⟨x, hx, hxe⟩ := Option.map_eq_some_iff.1 hfb
          have hxm := List.mem_of_getElem? hx
          obtain ⟨ak, rfl, hcl⟩ := blk_cells hsA5 hx
          obtain ⟨hpx, hpc, hpm⟩ := hpay5 x hxm
          obtain ⟨zh, zA, zc, zp, zs, za⟩ := x
          simp only [BlkM.plain, BlkP.mk.injEq] at hxe
          obtain ⟨rfl, rfl, rfl, rfl⟩ := hxe
          simp only at hpx hpc
          obtain ⟨bB, rfl, hbc⟩ := hk5.at hlt
          obtain ⟨hxs, hxc, hxcm⟩ := hk5.one hlt
          have hgl : (bs.map BlkV.l)[kk]'(by simpa using hlt) = bs[kk].l := by simp
          rw [hgl] at hsl hpl36 hcut hcutl
          have HKN2 := hid (show (bs.map BlkV.l).take (kk + 1) = (bs.map BlkV.l).take kk ++ [bs[kk].l] by rw [List.take_succ_eq_append_getElem (by simpa using hlt), hgl])
          generalize bs[kk] = x at *
          obtain ⟨xA, xc, xl⟩ := x
          simp only at hsl hpl36 hcut hcutl hxs hxc hxcm hbc
          have hxl300 : 36 ≤ xl.length := by omega
          have HSE := hid (fun W (hW : Below w5.heap.size w5 W) => (show Calls Tryd.prog 15 #[.agg #[.int .i64 (K : Nat), .int .i64 (IX : Nat), .int .i64 (LE : Nat), .int .i64 (ST : Nat), .int .i64 (BN : Nat), .bool lst, .int .u32 (LK : Nat), .int .i64 (zp.length : Nat)], .slice zA zp.length zc] W (SealPost W xl zs) from by
            rw [← hsl, hS]
            exact rhseal_ok K IX LE ST BN LK lst (zp.length : Int) zA zc zp W (SeesB.below hpx hW) (by omega) hrt hkb))
          have hcl8 : ∀ (j : Nat) (v : Value), (#[.int .i64 (K : Nat), .int .i64 (IX : Nat), .int .i64 (LE : Nat), .int .i64 (ST : Nat), .int .i64 (BN : Nat), .bool lst, .int .u32 (LK : Nat), .int .i64 (zp.length : Nat)] : Array Value).toList[j]? = some v → w5.cell? ((ak.add (kk * 11)).add j) = some v := fun j v hv => hcl j v (by
            have hj : j < 8 := (List.getElem?_eq_some_iff.1 hv).1
            rw [← hv]
            unfold BlkM.cells
            simp only
            rw [show ([.int .i64 (K : Nat), .int .i64 (IX : Nat), .int .i64 (LE : Nat), .int .i64 (ST : Nat), .int .i64 (BN : Nat), .bool lst, .int .u32 (LK : Nat), .int .i64 (zp.length : Nat), .slice zA zp.length zc, .int .u32 zs, .int .i64 (za : Int)] : List Value) = (#[.int .i64 (K : Nat), .int .i64 (IX : Nat), .int .i64 (LE : Nat), .int .i64 (ST : Nat), .int .i64 (BN : Nat), .bool lst, .int .u32 (LK : Nat), .int .i64 (zp.length : Nat)] : Array Value).toList ++ [.slice zA zp.length zc, .int .u32 zs, .int .i64 (za : Int)] from rfl, List.getElem?_append_left (by exact hj)])
          have e8 : w5.cell? { block := (ak.add (kk * 11)).block, off := (ak.add (kk * 11)).off + 8 } = some (.slice zA zp.length zc) := hcl 8 _ rfl
          have e9 : w5.cell? { block := (ak.add (kk * 11)).block, off := (ak.add (kk * 11)).off + 9 } = some (.int .u32 zs) := hcl 9 _ rfl
          have e10 : w5.cell? { block := (ak.add (kk * 11)).block, off := (ak.add (kk * 11)).off + 10 } = some (.int .i64 (za : Int)) := hcl 10 _ rfl
          have HCUT := hid hcut
          have HCL8 := hid hcl8
          have HS0 := hid hS
          have HB36 := hid hpl36
          clear hcl hfb hx hxm hsl hS hT hgl hpx hpc hpm hkb hrt hcut hcl8 hpl36
          go_wp2_with fail
          refine wp_region_held_drew (S := fun W => Below w5.heap.size w5 W) (by kernel_rfl) (show Below w5.heap.size w5 wr.drew from hbr.drew) (fun hHeld => ?_)
          replace hbr : Below w5.heap.size w5 wr.drew := hbr.drew
          replace hown : wr.drew.ownsRow w5.heap.size 32 1 (.slice Ag kk cg) kk (KK.map BlkV.v) := hown
          replace hOK : OwnK wr.drew w5.heap.size KK := hOK
          clear c7r
          generalize wr.drew = wd at *
          refine wpAnyH_takeD (i := 0) (d := some 92) (v := ?v100) rfl rfl (by kernel_rfl) (by kernel_rfl) (by kernel_rfl) (fun _ _ _ h => h) (Or.inl ⟨by rfl, ?hy100⟩) hHeld ?rest100
          case hy100 =>
            intro wS hS
            go_simp
            all_goals with_reducible rfl
          (try simp only [Act.put, List.setIfInBounds_toArray, List.set_cons_zero, List.set_cons_succ])
          refine wpAnyH_takeD (i := 1) (d := some 93) (v := ?v101) rfl rfl (by kernel_rfl) (by kernel_rfl) (by kernel_rfl) (fun _ _ _ h => h) (Or.inl ⟨by rfl, ?hy101⟩) hHeld ?rest101
          case hy101 =>
            intro wS hS
            have k7 := keep1 hS c7
            go_simp
            all_goals with_reducible rfl
          (try simp only [Act.put, List.setIfInBounds_toArray, List.set_cons_zero, List.set_cons_succ])
          refine wpAnyH_takeD (i := 2) (d := some 94) (v := ?v102) rfl rfl (by kernel_rfl) (by kernel_rfl) (by kernel_rfl) (fun _ _ _ h => h) (Or.inl ⟨by rfl, ?hy102⟩) hHeld ?rest102
          case hy102 =>
            intro wS hS
            go_simp
            all_goals with_reducible rfl
          (try simp only [Act.put, List.setIfInBounds_toArray, List.set_cons_zero, List.set_cons_succ])
          refine wpAnyH_takeD (i := 3) (d := some 95) (v := ?v103) rfl rfl (by kernel_rfl) (by kernel_rfl) (by kernel_rfl) (fun _ _ _ h => h) (Or.inl ⟨by rfl, ?hy103⟩) hHeld ?rest103
          case hy103 =>
            intro wS hS
            go_simp
            all_goals with_reducible rfl
          (try simp only [Act.put, List.setIfInBounds_toArray, List.set_cons_zero, List.set_cons_succ])
          refine wpAnyH_takeD (i := 4) (d := some 96) (v := ?v104) rfl rfl (by kernel_rfl) (by kernel_rfl) (by kernel_rfl) (fun _ _ _ h => h) (Or.inl ⟨by rfl, ?hy104⟩) hHeld ?rest104
          case hy104 =>
            intro wS hS
            go_simp
            all_goals with_reducible rfl
          (try simp only [Act.put, List.setIfInBounds_toArray, List.set_cons_zero, List.set_cons_succ])
          refine wpAnyH_takeD (i := 5) (d := some 97) (v := .agg #[.int .i64 (K : Nat), .int .i64 (IX : Nat), .int .i64 (LE : Nat), .int .i64 (ST : Nat), .int .i64 (BN : Nat), .bool lst, .int .u32 (LK : Nat), .int .i64 (zp.length : Nat)]) rfl rfl (by kernel_rfl) (by kernel_rfl) (by kernel_rfl) (fun _ _ _ h => h) (Or.inl ⟨by rfl, ?hy105⟩) hHeld ?rest105
          case hy105 =>
            intro wS hS
            exact run_load_any 52 (.tmp 96) rfl (ak.add (kk * 11)) (by rfl) #[.int .i64 (K : Nat), .int .i64 (IX : Nat), .int .i64 (LE : Nat), .int .i64 (ST : Nat), .int .i64 (BN : Nat), .bool lst, .int .u32 (LK : Nat), .int .i64 (zp.length : Nat)] _ (fun j v hv => keep1 hS (HCL8.out j v hv)) Tryd.underlying52 rfl (by kernel_rfl)
          (try simp only [Act.put, List.setIfInBounds_toArray, List.set_cons_zero, List.set_cons_succ])
          refine wpAnyH_takeD (i := 6) (d := some 98) (v := ?v106) rfl rfl (by kernel_rfl) (by kernel_rfl) (by kernel_rfl) (fun _ _ _ h => h) (Or.inl ⟨by rfl, ?hy106⟩) hHeld ?rest106
          case hy106 =>
            intro wS hS
            go_simp
            all_goals with_reducible rfl
          (try simp only [Act.put, List.setIfInBounds_toArray, List.set_cons_zero, List.set_cons_succ])
          refine wpAnyH_takeD (i := 7) (d := some 99) (v := ?v107) rfl rfl (by kernel_rfl) (by kernel_rfl) (by kernel_rfl) (fun _ _ _ h => h) (Or.inl ⟨by rfl, ?hy107⟩) hHeld ?rest107
          case hy107 =>
            intro wS hS
            have k7 := keep1 hS c7
            go_simp
            all_goals with_reducible rfl
          (try simp only [Act.put, List.setIfInBounds_toArray, List.set_cons_zero, List.set_cons_succ])
          refine wpAnyH_takeD (i := 8) (d := some 100) (v := ?v108) rfl rfl (by kernel_rfl) (by kernel_rfl) (by kernel_rfl) (fun _ _ _ h => h) (Or.inl ⟨by rfl, ?hy108⟩) hHeld ?rest108
          case hy108 =>
            intro wS hS
            go_simp
            all_goals with_reducible rfl
          (try simp only [Act.put, List.setIfInBounds_toArray, List.set_cons_zero, List.set_cons_succ])
          refine wpAnyH_takeD (i := 9) (d := some 101) (v := ?v109) rfl rfl (by kernel_rfl) (by kernel_rfl) (by kernel_rfl) (fun _ _ _ h => h) (Or.inl ⟨by rfl, ?hy109⟩) hHeld ?rest109
          case hy109 =>
            intro wS hS
            go_simp
            all_goals with_reducible rfl
          (try simp only [Act.put, List.setIfInBounds_toArray, List.set_cons_zero, List.set_cons_succ])
          refine wpAnyH_takeD (i := 10) (d := some 102) (v := ?v110) rfl rfl (by kernel_rfl) (by kernel_rfl) (by kernel_rfl) (fun _ _ _ h => h) (Or.inl ⟨by rfl, ?hy110⟩) hHeld ?rest110
          case hy110 =>
            intro wS hS
            go_simp
            all_goals with_reducible rfl
          (try simp only [Act.put, List.setIfInBounds_toArray, List.set_cons_zero, List.set_cons_succ])
          refine wpAnyH_takeD (i := 11) (d := some 103) (v := ?v111) rfl rfl (by kernel_rfl) (by kernel_rfl) (by kernel_rfl) (fun _ _ _ h => h) (Or.inl ⟨by rfl, ?hy111⟩) hHeld ?rest111
          case hy111 =>
            intro wS hS
            have k8 := keep1 hS e8
            go_simp
            all_goals with_reducible rfl
          (try simp only [Act.put, List.setIfInBounds_toArray, List.set_cons_zero, List.set_cons_succ])
          refine wpAnyH_ready (rs := [12]) (by kernel_rfl) (by simp) (AllReadyH.cons rfl (fun K hK => ?_) AllReadyH.nil)
          rw [if_pos (by rfl)]
          go_simp
          refine (HSE.out wd hbr).mono ?_
          rintro e w6 ⟨v, rfl, hv⟩
          obtain ⟨A6, c6, rfl, hs6, hA6, ho6, hb6⟩ := hv.parts
          have hbr6 := hbr.trans (hb6.mono hbr.size)
          have hown6 := own_keepF hown hb6
          have hOK6 := hOK.below hb6
          have ho6' := Joins.ownsRow_le ho6 hbr.size
          clear hv hA6 ho6 hb6 hown hOK hbr HSE HCL8 e8
          go_wp2_with fail
          refine hK.out _ _ hbr6 (fun hHeld => ?_)
          clear hK K
          (try simp only [Act.put, List.setIfInBounds_toArray, List.set_cons_zero, List.set_cons_succ])
          refine wpAnyH_takeD (i := 13) (d := some 91) (v := ?v112) rfl rfl (by kernel_rfl) (by kernel_rfl) (by kernel_rfl) (fun _ _ _ h => h) (Or.inl ⟨by rfl, ?hy112⟩) hHeld ?rest112
          case hy112 =>
            intro wS hS
            go_simp
            all_goals with_reducible rfl
          (try simp only [Act.put, List.setIfInBounds_toArray, List.set_cons_zero, List.set_cons_succ])
          refine wpAnyH_takeD (i := 14) (d := some 105) (v := ?v113) rfl rfl (by kernel_rfl) (by kernel_rfl) (by kernel_rfl) (fun _ _ _ h => h) (Or.inl ⟨by rfl, ?hy113⟩) hHeld ?rest113
          case hy113 =>
            intro wS hS
            go_simp
            all_goals with_reducible rfl
          (try simp only [Act.put, List.setIfInBounds_toArray, List.set_cons_zero, List.set_cons_succ])
          refine wpAnyH_takeD (i := 15) (d := some 106) (v := ?v114) rfl rfl (by kernel_rfl) (by kernel_rfl) (by kernel_rfl) (fun _ _ _ h => h) (Or.inl ⟨by rfl, ?hy114⟩) hHeld ?rest114
          case hy114 =>
            intro wS hS
            go_simp
            all_goals with_reducible rfl
          (try simp only [Act.put, List.setIfInBounds_toArray, List.set_cons_zero, List.set_cons_succ])
          refine wpAnyH_takeD (i := 16) (d := some 107) (v := ?v115) rfl rfl (by kernel_rfl) (by kernel_rfl) (by kernel_rfl) (fun _ _ _ h => h) (Or.inl ⟨by rfl, ?hy115⟩) hHeld ?rest115
          case hy115 =>
            intro wS hS
            go_simp
            all_goals with_reducible rfl
          (try simp only [Act.put, List.setIfInBounds_toArray, List.set_cons_zero, List.set_cons_succ])
          refine wpAnyH_takeD (i := 17) (d := some 16) (v := ?v116) rfl rfl (by kernel_rfl) (by kernel_rfl) (by kernel_rfl) (fun _ _ _ h => h) (Or.inl ⟨by rfl, ?hy116⟩) hHeld ?rest116
          case hy116 =>
            intro wS hS
            go_simp
            all_goals with_reducible rfl
          (try simp only [Act.put, List.setIfInBounds_toArray, List.set_cons_zero, List.set_cons_succ])
          refine wpAnyH_takeD (i := 18) (d := some 17) (v := ?v117) rfl rfl (by kernel_rfl) (by kernel_rfl) (by kernel_rfl) (fun _ _ _ h => h) (Or.inl ⟨by rfl, ?hy117⟩) hHeld ?rest117
          case hy117 =>
            intro wS hS
            go_simp
            all_goals with_reducible rfl
          (try simp only [Act.put, List.setIfInBounds_toArray, List.set_cons_zero, List.set_cons_succ])
          refine wpAnyH_takeD (i := 19) (d := some 18) (v := ?v118) rfl rfl (by kernel_rfl) (by kernel_rfl) (by kernel_rfl) (fun _ _ _ h => h) (Or.inl ⟨by rfl, ?hy118⟩) hHeld ?rest118
          case hy118 =>
            intro wS hS
            go_simp
            all_goals with_reducible rfl
          (try simp only [Act.put, List.setIfInBounds_toArray, List.set_cons_zero, List.set_cons_succ])
          refine wpAnyH_done (by kernel_rfl) ?_ _
          clear hHeld
          go_wp2_with fail
          have hwd : ∀ n, w6.drewN n = w6.drewN n := fun n => rfl
          clear hwd
          have k7 := keep1 hbr6 c7
          have k9 := keep1 hbr6 e9
          have k10 := keep1 hbr6 e10
          have kB := keep1 hbr6 hbc
          have hzs : (zs != zs) = false := by simp
          have hxs7 := SeesB.below hxs hbr6
          have hs7 := SeesB.below hs5 hbr6
          obtain ⟨a2, rfl, _⟩ := hs7.at (show 0 < L.length by omega)
          have hsC := SeesB.cutTo hs7 za xl.length
          rw [HCUT.out] at hsC
          replace hsC : SeesB w6 (some (a2.add za)) xl := hsC
          obtain ⟨FF, hF⟩ : ∃ FF : ByteArray, FF = ⟨xl.toArray⟩ := ⟨_, rfl⟩
          have hcv1 : ∀ n, (convert 32 9 (.slice A6 xl.length c6)).run Tryd.prog (w6.drewN n) = .ok (.string FF) (w6.drewN n) := fun n => by rw [hF]; exact conv_bs A6 c6 xl (w6.drewN n) hs6
          have hcv2 : ∀ n, (convert 32 9 (.slice xA xl.length xc)).run Tryd.prog (w6.drewN n) = .ok (.string FF) (w6.drewN n) := fun n => by rw [hF]; exact conv_bs xA xc xl (w6.drewN n) hxs7
          have hcv3 : ∀ n c, (convert 32 9 (.slice (some (a2.add za)) xl.length c)).run Tryd.prog (w6.drewN n) = .ok (.string FF) (w6.drewN n) := fun n c => by rw [hF]; exact conv_bs (some (a2.add za)) c xl (w6.drewN n) hsC
          have hse : (FF.toList == FF.toList) = true := beq_self_eq_true _
          obtain ⟨hwp, hwq, hcz, hq1, hq2, hq3, hdf⟩ := cut_facts za xl.length L.length c2 hcutl hL hc2.1 hxl300
          clear hs6 hxs7 hs7 hsC hF e9 e10
          go_quiet (fail)
          have hdr : Below w6.heap.size w6 (w6.drewN nq) := ⟨rfl, rfl, rfl, Nat.le_refl _, fun _ _ => rfl⟩
          replace hOK6 := hOK6.below hdr
          replace ho6' := own_keepF ho6' hdr
          replace hown6 := own_keepF hown6 hdr
          replace hbr6 := hbr6.trans (hdr.mono hbr6.size)
          clear hdr hcv1 hcv2 hcv3
          generalize w6.drewN nq = w7 at *
          clear k7 k9 k10 kB hse hwp hwq hcz hq1 hq2 hq3 hdf
          have HM2 := hid (show KK.map BlkV.v ++ [.slice A6 xl.length c6] = (KK ++ [(⟨A6, c6, xl⟩ : BlkV)]).map BlkV.v by simp [BlkV.v])
          have hb57 := hbr6.size
          have hba : Below w7.heap.size w7 (w7.alloc (.cells #[.slice A6 xl.length c6] 32)) := (Below.refl _ _).alloc (Nat.le_refl _) _
          have hOK8 := hOK6.below hba
          have ho8 := own_keepF ho6' hba
          have hown8 := own_keepF hown6 hba
          have hbr8 := hbr6.trans (hba.mono hbr6.size)
          clear hba hOK6 ho6' hown6 hbr6
          go_wp2_with (at_builtin; refine wpList_app rfl (.tmp 153) (.tmp 155) _ rfl elBB rfl hown8 (some ⟨w7.heap.size, 0, none⟩) 1 1 rfl [.slice A6 xl.length c6] (Sees.of_alloc _ _ _ rfl) (by simp) (by simp [Value.oneCell']) (kk + 1) rfl _ HM2.out (by have := HN2.out; unfold maxLen; omega) (by have := HN2.out; omega) hbr8.size ?_; intro A9 c9' w9 hown9 hgr hat hbel)
          have hbr9 := hbr8.trans hbel
          have hB9 := But.of_grown hgr hbel
          have hOK9 : OwnK w9 w5.heap.size (KK ++ [(⟨A6, c6, xl⟩ : BlkV)]) := by
            intro y hy
            rcases List.mem_append.1 hy with hy | hy
            · exact (hOK8.but hown8 hB9) y hy
            · rw [List.mem_singleton.1 hy]
              exact own_but ho8 hB9 (fun q hq => own_apart ho8 hown8 (by decide) q hq)
          have HKM2 := hid (show (KK ++ [(⟨A6, c6, xl⟩ : BlkV)]).map BlkV.l = (bs.map BlkV.l).take (kk + 1) by rw [HKN2.out, ← HKM.out, List.map_append]; rfl)
          obtain ⟨hr1, hr2⟩ := round_facts kk bs.length hlt HN2.out
          exact ⟨⟨kk + 1, A9, c9', KK ++ [⟨A6, c6, xl⟩], hlt, hr1, rfl, hown9, hOK9, HKM2, hbr9⟩, hr2⟩
        · obtain rfl : kk = bs.length := by omega
          have dk : decide (bs.length < bs.length) = false := by simp
          have hKl : KK.map BlkV.l = bs.map BlkV.l := by rw [HKM.out, List.take_of_length_le (by simp)]
          have hKn : KK.length = bs.length := by have := congrArg List.length hKl; simpa using this
          have hbw := hbw5.trans (hbr.mono hbw5.size)
          have htr := ht5.keep hbr ht5.lt
          have hb1r := hb15.trans (hbr.mono hb15.size)
          have hsTr := hsT5.below hbr
          have hsr := SeesB.below hs5 hbr
          have hKs := hOK.sees hown
          have HBR := hid (HB2.out w0.heap.size wr At ct Ag cg KK hb1r htr hsTr hct hKs hKl)
          rw [hKn] at HBR
          have r0 := keep1 hbr k0
          have r1 := keep1 hbr k1
          have r2 := keep1 hbr k2
          have r3 := keep1 hbr k3
          have r4 := keep1 hbr k4
          have r5 := keep1 hbr k5
          have r6 := keep1 hbr k6
          have r9 := keep1 hbr c9
          clear hKl hKn hbr htr hb1r hsTr hKs hown hOK HKM HB2 hlt
          go_wp2_with fail
          refine HBR.out.mono ?_
          rintro e w6 ⟨v, rfl, hv⟩
          obtain ⟨A6, c6, rfl, hs6, hA6, ho6, hb6⟩ := hv.parts
          have hsL := SeesB.below hsr hb6
          have hbw6 := hbw.trans (hb6.mono hbw.size)
          obtain ⟨FF, hF⟩ : ∃ FF : ByteArray, FF = ⟨L.toArray⟩ := ⟨_, rfl⟩
          simp only at hs6
          have hcv1 : (convert 32 9 (.slice A6 L.length c6)).run Tryd.prog w6 = .ok (.string FF) w6 := by rw [hF]; exact conv_bs A6 c6 L w6 hs6
          have hcv2 : (convert 32 9 (.slice A2 L.length c2)).run Tryd.prog w6 = .ok (.string FF) w6 := by rw [hF]; exact conv_bs A2 c2 L w6 hsL
          have hse : (FF.toList == FF.toList) = true := beq_self_eq_true _
          clear hv hA6 ho6 hb6 hs6 hsL hsr hF HBR
          go_wp2_with fail
          refine (HKN.out _).mono ?_
          rintro e wz ⟨rfl, hbz⟩
          go_wp2_with fail
          go_ret
          exact ⟨rfl, hbw6.trans (hbz.mono hbw6.size)⟩
end fileBack
end Go.Proofs.YtkmhmehofipehaaDoor
