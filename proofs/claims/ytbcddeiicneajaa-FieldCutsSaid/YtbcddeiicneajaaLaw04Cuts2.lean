/- The walk of FieldCuts. -/
import Derived.Test.YtbcddeiicneajaaLaw04Cuts
namespace Go.Proofs.Ytbcddeiicneajaa.fieldCuts
set_option linter.unusedVariables false
open Go.RowKit
theorem UPostTo (w : World) (g : Nat) (l : List UInt8) (err : Int) (p : Nat) (b : List UInt8) : UPost w g l ((err, p), b) = fun e w' => e = .returned (.int .u64 (valLE b : Nat)) ∧ Tk w' g err p l ∧ But (Only g) w w' := rfl
set_option maxHeartbeats 2000000 in
theorem walk (A : Option Addr) (c : Nat) (l : List Int) (cut : Int) (w : World) (hb : SeesI w A l ∧ l.length ≤ c ∧ c ≤ maxLen) (hc : -9223372036854775808 ≤ cut ∧ cut < 9223372036854775808) :
    Calls Try.prog 4 #[.slice A l.length c, .int .i64 cut] w fun e w' => e = .returned (.bool true) ∧ Below w.heap.size w w' := by
  obtain ⟨hl, hc1, hc2⟩ := hb
  clear hc1 hc2
  by_cases hbig : 50 < l.length
  · have hd1 : decide (50 < (l.length : Int)) = true := by simp; omega
    go_enter Try.func4, Try.ntmps4
    go_wp2_with fail
    refine (known_any _).mono ?_
    rintro e w2 ⟨rfl, hb2⟩
    go_wp2_with fail
    go_ret
    exact ⟨rfl, hb2⟩
  have hd1 : decide (50 < (l.length : Int)) = false := by simp; omega
  have hlen : l.length ≤ 50 := by omega
  have hm0 := mk_new w
  have hb0 : Below w.heap.size w (w.alloc (.cells #[.int .i64 0, .slice none 0 0] 31)) := (Below.refl _ w).alloc (Nat.le_refl _) _
  have hl0 := hl.below hb0
  have hB0 : Both (w.alloc (.cells #[.int .i64 0, .slice none 0 0] 31)) w.heap.size w.heap.size (fun b => b = w.heap.size) 0 [] 3 (.slice none 0 0) 0 [] :=
    ⟨hm0, own_nil _ _ _ _, fun k hk => by simp [Value.ownBlock] at hk, fun k hk => Nat.le_of_eq hk.symm⟩
  go_enter Try.func4, Try.ntmps4
  go_wp2_with fail
  generalize w.alloc (.cells #[.int .i64 0, .slice none 0 0] 31) = w0 at *
  go_loopw [6, 7, 8] (fun x i nn wr => ∃ k : Nat, k ≤ l.length ∧ i = .int .i64 k ∧ ∃ (R : Nat → Prop) (ns : List Int), ns = (l.take k).map (fun x => (nOf x : Int)) ∧ Both wr w.heap.size w.heap.size R 0 (sevens (l.take k)) 3 x k (ns.map intV) ∧ Below w.heap.size w wr) (fun _ i _ _ => l.length - (intOf i).toNat)
  case atStart => exact ⟨0, by omega, rfl, _, [], rfl, hB0, hb0⟩
  case round =>
    obtain ⟨k, hk, rfl, R, ns, hns, hBo, hbw⟩ := hrel
    by_cases hlt : k < l.length
    · have hlw := hl.below hbw
      obtain ⟨a, rfl, hca⟩ := hlw.at hlt
      have hd : decide (k < l.length) = true := by simp; omega
      obtain ⟨q, hq⟩ : ∃ q, nOf l[k] = q + 1 := ⟨nOf l[k] - 1, by have := (nOf_is l[k]).2.1; omega⟩
      have hbit : bits .and .i64 l[k] 7 = (q : Int) := by rw [(nOf_is l[k]).1, hq]; rfl
      have hq8 : q ≤ 7 := by have := (nOf_is l[k]).2.2; omega
      have hsl := sevens_le (l.take k)
      rw [List.length_take, Nat.min_eq_left hk] at hsl
      have hstep := hid (walk_step l k hlt)
      have HQ := hid hq
      have HN := hid hns
      clear hq hns
      go_wp2_with fail
      refine (makerU_any w.heap.size R 0 (sevens (l.take k)) 7 (1 + (q : Int)) wr hBo.1 (by omega) (by omega)).mono ?_
      rintro e w1 ⟨rfl, R1, hm1, hB1, hR1⟩
      rw [show 1 + (q : Int) = ((q + 1 : Nat) : Int) by omega, putU_seven _ _ (by omega), ← HQ.out, ← hstep.out] at hm1
      have hBo1 := hBo.made hm1 hB1 hR1 hbw.size
      have hbw1 := But.below hbw hB1 hBo.2.2.2 hbw.size
      obtain ⟨ns2, hns2⟩ : ∃ ns2, ns2 = ns ++ [1 + (q : Int)] := ⟨_, rfl⟩
      have hmm : ns2.map intV = ns.map intV ++ [intV (1 + (q : Int))] := by rw [hns2]; simp
      have hnx : ns2 = (l.take (k + 1)).map (fun x => (nOf x : Int)) := by
        rw [hns2, HN.out, List.take_succ_eq_append_getElem hlt, List.map_append, List.map_singleton, HQ.out]; congr 2; omega
      have HMM := hid hmm
      have HN2 := hid hnx
      clear hmm hnx hns2
      have hbA : Below w1.heap.size w1 (w1.alloc (.cells #[.int .i64 (1 + (q : Int))] 3)) := (Below.refl _ _).alloc (Nat.le_refl _) _
      have hBoA := hBo1.made (hBo1.1.below hbA) (But.of_below (R := R1) hbA) (fun b h => .inl h) hbw1.size
      go_wp2_with (at_builtin; refine wpList_app rfl (.tmp 35) (.tmp 37) _ rfl elI rfl hBoA.2.1 (some ⟨w1.heap.size, 0, none⟩) 1 1 rfl [intV (1 + (q : Int))] (Sees.of_alloc _ _ _ rfl) (by simp) (by simp [intV, Value.oneCell']) (k + 1) rfl (ns2.map intV) HMM.out.symm (by unfold maxLen; omega) (by omega) (Nat.le_trans hbw1.size hbA.size) ?_; intro A2 c2 w2 hown hgr hat hbel)
      exact ⟨⟨k + 1, hlt, by go_num, R1, ns2, HN2.out, hBoA.app hown hgr hat hbel, (hbw1.trans (hbA.mono hbw1.size)).trans hbel⟩, by simp [intOf]; omega⟩
    · obtain rfl : k = l.length := by omega
      have hd : decide (l.length < l.length) = false := by simp
      rw [List.take_length] at hns hBo
      have hsl := sevens_le l
      have hcl := sevens_length l
      obtain ⟨A4, c4, hx4, hs4, hA4⟩ := own_form hBo.2.1
      subst hx4
      obtain ⟨S, hS⟩ : ∃ S, S = sevens l := ⟨_, rfl⟩
      rw [← hS] at hBo hsl
      have HS := hid hS
      have HN := hid hns
      clear hS hns hcl
      have hwl : w.heap.size < wr.heap.size := hBo.1.lt
      go_wp2_with fail
      refine (bytes_ok w.heap.size R S wr hBo.1 (by omega)).mono ?_
      rintro e w1 ⟨v, rfl, hv⟩
      obtain ⟨A3, c3, rfl, hs3, hA3, ho3, hb3⟩ := hv.parts
      have hb3' : Below w.heap.size w w1 := hbw.trans (hb3.mono hbw.size)
      by_cases hk1 : cut < 1
      · have e1 : decide (cut < 1) = true := by simpa using hk1
        go_wp2_with fail
        refine (known_any _).mono ?_
        rintro e w2 ⟨rfl, hb4⟩
        go_wp2_with fail
        go_ret
        exact ⟨rfl, hb3'.trans (hb4.mono hb3'.size)⟩
      have e1 : decide (cut < 1) = false := by simpa using hk1
      by_cases hk2 : (S.length : Int) < cut
      · have e2 : decide ((S.length : Int) < cut) = true := by simpa using hk2
        go_wp2_with fail
        refine (known_any _).mono ?_
        rintro e w2 ⟨rfl, hb4⟩
        go_wp2_with fail
        go_ret
        exact ⟨rfl, hb3'.trans (hb4.mono hb3'.size)⟩
      have e2 : decide ((S.length : Int) < cut) = false := by simpa using hk2
      obtain ⟨C, rfl⟩ := Int.eq_ofNat_of_zero_le (show 0 ≤ cut by omega)
      obtain ⟨T, hTC⟩ : ∃ T, S.length = T + C := ⟨S.length - C, by omega⟩
      have hcc := own_cap ho3
      have f1 : 0 ≤ (S.length : Int) - C := by omega
      have f2 : (S.length : Int) - C ≤ c3 := by omega
      go_wp2_with fail
      have hTl : (S.take T).length = T := by rw [List.length_take]; omega
      have hTake := hid (take_any A3 c3 (S.take T) w1 (by unfold SeesB; rw [List.map_take]; exact Sees.take hs3 T) (by rw [hTl]; omega))
      rw [← hTl]
      refine hTake.out.mono ?_
      rintro e w2 ⟨g, rfl, hg, hTk, hb4⟩
      have hs5 : SeesI w2 A4 ns := (SeesI.below (show SeesI _ A4 ns from hs4) hb3).below hb4
      have hA5 : ∀ a, A4 = some a → a.block ≠ g := fun a ha => by have := (hA4 a ha).2.2; have := hb3.size; omega
      have hb4' : Below w.heap.size w w2 := hb3'.trans (hb4.mono hb3'.size)
      have hTl2 : (S.take T).length ≤ 140737488355328 := by rw [hTl]; omega
      clear hs4 hA4 hs3 hA3 ho3 hBo hv
      go_wp2_with fail
      go_loopw [12, 13] (fun i v wq => ∃ k : Nat, k ≤ l.length ∧ i = .int .i64 k ∧ ∃ (err : Int) (p : Nat), Tk wq g err p (S.take T) ∧ But (Only g) w2 wq ∧ ((err = 0 ∧ p = (sevens (l.take k)).length ∧ p ≤ T) ∨ err = 10)) (fun i _ _ => l.length - (intOf i).toNat)
      case atStart => exact ⟨0, by omega, rfl, 0, 0, hTk, But.refl _ _, .inl ⟨rfl, rfl, by omega⟩⟩
      case round =>
        obtain ⟨k, hk, rfl, err, p, hT, hB, hcase⟩ := hrel
        have hq5 := Sees.but hs5 hB (fun a ha h => hA5 a ha h)
        have hnl : ns.length = l.length := by rw [HN.out]; simp
        by_cases hlt : k < l.length
        · obtain ⟨a, rfl, hca⟩ := SeesI.at (l := ns) hq5 (i := k) (by omega)
          have hnk : ns[k]'(by omega) = (nOf l[k] : Int) := by simp only [HN.out, List.getElem_map]
          rw [hnk] at hca
          have hd : decide (k < l.length) = true := by simp; omega
          have hq8 := (nOf_is l[k]).2
          obtain ⟨q, hq⟩ : ∃ q, q = nOf l[k] := ⟨_, rfl⟩
          rw [← hq] at hca hq8
          have hr := cut_round l T C k q p err (by rw [← HS.out]; exact hTC) hlt hq hcase
          rw [← HS.out] at hr
          have hcall := hid (takerU_any g err p (q : Int) (S.take T) wr hT hTl2)
          clear hq hnk hnl hq5 hcase hT
          rcases hr with ⟨p2, h1, h2, h3⟩ | ⟨p2, h1⟩
          · rw [h1, UPostTo, seven q hq8.1] at hcall
            clear h1
            go_wp2_with fail
            refine hcall.out.mono ?_
            rintro e w3 ⟨rfl, hT3, hB3⟩
            have hc0 := hT3.cells
            obtain ⟨_, _, hc0, _⟩ := hc0
            go_wp2_with fail
            refine (terr_is g 0 w3 hc0).mono ?_
            rintro e w4 ⟨rfl, rfl⟩
            go_wp2_with fail
            refine (terr_is g 0 w3 hc0).mono ?_
            rintro e w4 ⟨rfl, rfl⟩
            go_wp2_with fail
            exact ⟨⟨k + 1, hlt, by go_num, 0, p2, hT3, hB.trans hB3 (fun n h => .inl h), .inl ⟨rfl, h2, h3⟩⟩, by simp [intOf]; omega⟩
          · rw [h1, UPostTo] at hcall
            clear h1
            go_wp2_with fail
            refine hcall.out.mono ?_
            rintro e w3 ⟨rfl, hT3, hB3⟩
            have hc0 := hT3.cells
            obtain ⟨_, _, hc0, _⟩ := hc0
            go_wp2_with fail
            refine (terr_is g 10 w3 hc0).mono ?_
            rintro e w4 ⟨rfl, rfl⟩
            go_wp2_with fail
            refine (terr_is g 10 w3 hc0).mono ?_
            rintro e w4 ⟨rfl, rfl⟩
            go_wp2_with fail
            exact ⟨⟨k + 1, hlt, by go_num, 10, p2, hT3, hB.trans hB3 (fun n h => .inl h), .inr rfl⟩, by simp [intOf]; omega⟩
        · obtain rfl : k = l.length := by omega
          have hd : decide (l.length < l.length) = false := by simp
          have herr : err = 10 := by
            rcases hcase with ⟨_, h2, h3⟩ | h
            · rw [List.take_length, ← HS.out] at h2; omega
            · exact h
          subst herr
          clear hcase
          obtain ⟨_, _, hc0, _⟩ := hT.cells
          go_wp2_with fail
          refine (terr_is g 10 wr hc0).mono ?_
          rintro e w4 ⟨rfl, rfl⟩
          go_wp2_with fail
          refine (known_any _).mono ?_
          rintro e w4 ⟨rfl, hb6⟩
          go_wp2_with fail
          have hb7 : Below w.heap.size w wr := But.below hb4' hB (fun n h => by rw [show n = g from h]; have := hb3'.size; omega) hb4'.size
          go_ret
          exact ⟨rfl, hb7.trans (hb6.mono hb7.size)⟩
end Go.Proofs.Ytbcddeiicneajaa.fieldCuts
