/- How far two sounds are from one another: the program's answer. -/
import Derived.Test.YtfinefhebffpcaaPcmBoth
import Derived.Test.YtfinefhebffpcaaPcmWeave
namespace Go.Proofs.Ytfinefhebffpcaa
set_option linter.unusedVariables false
open Go.RowKit
def absI (x : Int) : Int := if x < 0 then -x else x
def farTo (l m : List Int) : Nat → Int
  | 0 => 0
  | k + 1 => if farTo l m k < absI (l.getD k 0 - m.getD k 0) then absI (l.getD k 0 - m.getD k 0) else farTo l m k
theorem farTo_nonneg (l m : List Int) : ∀ k, 0 ≤ farTo l m k
  | 0 => by unfold farTo; omega
  | k + 1 => by
    have := farTo_nonneg l m k
    unfold farTo
    split
    · unfold absI; split <;> omega
    · exact this
theorem farTo_le (l m : List Int) (hl : ∀ x ∈ l, -8388608 ≤ x ∧ x ≤ 8388607) (hm : ∀ x ∈ m, -8388608 ≤ x ∧ x ≤ 8388607) : ∀ k, farTo l m k ≤ 16777216
  | 0 => by unfold farTo; omega
  | k + 1 => by
    have := farTo_le l m hl hm k
    have b : ∀ (n : List Int), (∀ x ∈ n, -8388608 ≤ x ∧ x ≤ 8388607) → -8388608 ≤ n.getD k 0 ∧ n.getD k 0 ≤ 8388607 := by
      intro n hn
      by_cases h : k < n.length
      · rw [show n.getD k 0 = n[k] by simp [List.getD, h]]
        exact hn _ (List.getElem_mem h)
      · rw [show n.getD k 0 = 0 by simp [List.getD, h]]
        omega
    have b1 := b l hl
    have b2 := b m hm
    unfold farTo
    split
    · unfold absI; split <;> omega
    · exact this
def apartTo (L M : List Chan) (k : Nat) : List Int := (List.range k).map fun i => farTo ((ints L).getD i []) ((ints M).getD i []) (((ints L).getD i []).length)
theorem apartTo_len (L M : List Chan) (k : Nat) : (apartTo L M k).length = k := by simp [apartTo]
theorem apartTo_succ (L M : List Chan) (k : Nat) (h : k < L.length) (h' : k < M.length) : apartTo L M (k + 1) = apartTo L M k ++ [farTo L[k].l M[k].l L[k].l.length] := by
  unfold apartTo
  rw [List.range_succ, List.map_append]
  have e1 : (ints L).getD k [] = L[k].l := by simp [ints, List.getD, h]
  have e2 : (ints M).getD k [] = M[k].l := by simp [ints, List.getD, h']
  show _ ++ [farTo ((ints L).getD k []) ((ints M).getD k []) (((ints L).getD k []).length)] = _
  rw [e1, e2]
/-- the samples of right sound are small -/
theorem check_small {ch bi ra : Int} {L : List Chan} (h : checkV ch bi ra L = 0) : ∀ x ∈ L, ∀ z ∈ x.l, -8388608 ≤ z ∧ z ≤ 8388607 := by
  obtain ⟨hr, _, _, hall⟩ := check_ok h
  unfold rightF at hr
  have hr := of_decide_eq_true hr
  intro x hx z hz
  have := (hall x hx).2
  unfold loudI at this
  rw [List.any_eq_false] at this
  have := this z hz
  simp at this
  unfold fitsB at this
  have := of_decide_eq_true this
  have := half_range bi.toNat (by omega) (by omega)
  omega
theorem both_ok {ch bi ra : Int} {L : List Chan} {ch' bi' ra' : Int} {M : List Chan} (h : bothV ch bi ra L ch' bi' ra' M = 0) : checkV ch bi ra L = 0 ∧ checkV ch' bi' ra' M = 0 ∧ sameF ch bi ra ch' bi' ra' = true := by
  unfold bothV at h
  by_cases h1 : checkV ch bi ra L = 0
  · rw [if_neg (by simpa using h1)] at h
    by_cases h2 : checkV ch' bi' ra' M = 0
    · rw [if_neg (by simpa using h2)] at h
      cases hF : sameF ch bi ra ch' bi' ra' with
      | false => rw [hF] at h; simp at h
      | true => exact ⟨h1, h2, rfl⟩
    · rw [if_pos h2] at h; exact absurd h h2
  · rw [if_pos h1] at h; exact absurd h h1
def apartV (ch bi ra : Int) (L : List Chan) (ch' bi' ra' : Int) (M : List Chan) : Int := if bothV ch bi ra L ch' bi' ra' M ≠ 0 then bothV ch bi ra L ch' bi' ra' M else if countL L = countL M then 0 else 22
def ApartPost (w : World) (r : Int) (o : List Int) (e : Ending) (w' : World) : Prop := if r = 0 then ∃ v, e = .returned (.tuple #[v, .int .i64 0]) ∧ NewI w o v w' else e = .returned (.tuple #[.slice none 0 0, .int .i64 r]) ∧ Below w.heap.size w w'
set_option maxRecDepth 20000 in
set_option maxHeartbeats 4000000 in
theorem apart_any (ch bi ra : Int) (A : Option Addr) (c : Nat) (L : List Chan) (ch' bi' ra' : Int) (B : Option Addr) (d : Nat) (M : List Chan) (w : World) (hl : SeesL w A L) (hm : SeesL w B M) (h1 : L.length ≤ maxLen) (h2 : M.length ≤ maxLen) :
    Calls Try.prog 22 #[.agg #[.int .i64 ch, .int .i64 bi, .int .i64 ra, .slice A L.length c], .agg #[.int .i64 ch', .int .i64 bi', .int .i64 ra', .slice B M.length d]] w (ApartPost w (apartV ch bi ra L ch' bi' ra' M) (apartTo L M L.length)) := by
  have hb := below_box2 w (.cells #[.int .i64 ch, .int .i64 bi, .int .i64 ra, .slice A L.length c] 26) (.cells #[.int .i64 ch', .int .i64 bi', .int .i64 ra', .slice B M.length d] 26)
  obtain ⟨ha, hc⟩ := snd_two w ch bi ra A L.length c ch' bi' ra' B M.length d
  obtain ⟨R, hR⟩ : ∃ R, R = apartV ch bi ra L ch' bi' ra' M := ⟨_, rfl⟩
  rw [← hR]
  unfold apartV at hR
  have hl0 := hl.below hb
  have hm0 := hm.below hb
  have KB := hid (fun W hW hW2 => pboth_any ch bi ra A c L ch' bi' ra' B d M W hW hW2 h1 h2)
  have C1 := hid (fun W hW => count_any ch bi ra A c L W hW)
  have C2 := hid (fun W hW => count_any ch' bi' ra' B d M W hW)
  obtain ⟨q, hq⟩ : ∃ q, q = bothV ch bi ra L ch' bi' ra' M := ⟨_, rfl⟩
  rw [← hq] at hR KB
  clear hl hm
  by_cases e1 : q = 0
  · have hok := both_ok (hq.symm.trans e1)
    subst e1
    rw [if_neg (by simp)] at hR
    obtain ⟨k1, k2, k3⟩ := hok
    have S1 := hid (check_small k1)
    have S2 := hid (check_small k2)
    obtain ⟨r1, n1, m1, a1⟩ := check_ok k1
    obtain ⟨r2, n2, m2, a2⟩ := check_ok k2
    have hL8 : L.length ≤ 8 := by unfold rightF at r1; have := of_decide_eq_true r1; omega
    have hM8 : M.length ≤ 8 := by unfold rightF at r2; have := of_decide_eq_true r2; omega
    have A1 := hid (fun x hx => (a1 x hx).1)
    have A2 := hid (fun x hx => (a2 x hx).1)
    have hLM : L.length = M.length := by
      unfold sameF at k3
      simp at k3
      omega
    have HLM := hid hLM
    clear k1 k2 k3 r1 r2 a1 a2 n1 n2 hLM hq h1 h2
    obtain ⟨cl, hcl⟩ : ∃ cl, cl = countL L := ⟨_, rfl⟩
    obtain ⟨cm, hcm⟩ : ∃ cm, cm = countL M := ⟨_, rfl⟩
    rw [← hcl] at C1 A1 m1 hR
    rw [← hcm] at C2 A2 m2 hR
    clear hcl hcm
    by_cases e2 : cl = cm
    · have dc : ((cl : Int) != (cm : Int)) = false := by simp [e2]
      rw [if_pos e2] at hR
      obtain rfl : R = 0 := hR
      have HE := hid e2
      clear e2
      go_enter Try.func22, Try.ntmps22
      go_wp2_with fail
      refine (KB.out _ hl0 hm0).mono ?_
      rintro e w1 ⟨rfl, hb1⟩
      have hl1 := hl0.below hb1
      have hm1 := hm0.below hb1
      have hbW := hb.trans (hb1.mono hb.size)
      have ha1 := ha.below hb1
      have hc1 := hc.below hb1
      clear hl0 hm0 ha hc hb hb1 KB
      obtain ⟨s0, s1, s2, s3⟩ := ha1
      obtain ⟨t0, t1, t2, t3⟩ := hc1
      go_wp2_with fail
      go_region_held3 (fun w' => w'.cell? ⟨w.heap.size, 0, none⟩ = some (.int .i64 ch) ∧ w'.cell? ⟨w.heap.size, 1, none⟩ = some (.int .i64 bi) ∧ w'.cell? ⟨w.heap.size, 2, none⟩ = some (.int .i64 ra) ∧ w'.cell? ⟨w.heap.size, 3, none⟩ = some (.slice A L.length c) ∧ w'.cell? ⟨w.heap.size + 1, 0, none⟩ = some (.int .i64 ch') ∧ w'.cell? ⟨w.heap.size + 1, 1, none⟩ = some (.int .i64 bi') ∧ w'.cell? ⟨w.heap.size + 1, 2, none⟩ = some (.int .i64 ra') ∧ w'.cell? ⟨w.heap.size + 1, 3, none⟩ = some (.slice B M.length d)) (first | exact ⟨s0, s1, s2, s3, t0, t1, t2, t3⟩ | go_keep)
        (first | (go_at_call 14; refine (C1.out _ ?_).mono ?_; exact hl1; rintro e wa ⟨rfl, hba⟩; replace s0 := keep1 hba s0; replace s1 := keep1 hba s1; replace s2 := keep1 hba s2; replace s3 := keep1 hba s3; replace t0 := keep1 hba t0; replace t1 := keep1 hba t1; replace t2 := keep1 hba t2; replace t3 := keep1 hba t3; replace hl1 := hl1.below ⟨hba.os, hba.tape, hba.output, hba.size, hba.block⟩; replace hm1 := hm1.below ⟨hba.os, hba.tape, hba.output, hba.size, hba.block⟩; replace hbW := Below.trans hbW (Below.mono (w := _) ⟨hba.os, hba.tape, hba.output, hba.size, hba.block⟩ hbW.size); clear hba C1) | (go_at_call 14; refine (C2.out _ ?_).mono ?_; exact hm1; rintro e wa ⟨rfl, hba⟩; replace s0 := keep1 hba s0; replace s1 := keep1 hba s1; replace s2 := keep1 hba s2; replace s3 := keep1 hba s3; replace t0 := keep1 hba t0; replace t1 := keep1 hba t1; replace t2 := keep1 hba t2; replace t3 := keep1 hba t3; replace hl1 := hl1.below ⟨hba.os, hba.tape, hba.output, hba.size, hba.block⟩; replace hm1 := hm1.below ⟨hba.os, hba.tape, hba.output, hba.size, hba.block⟩; replace hbW := Below.trans hbW (Below.mono (w := _) ⟨hba.os, hba.tape, hba.output, hba.size, hba.block⟩ hbW.size); clear hba C2))
      clear s0 s1 s2 t0 t1 t2
      generalize wa = w3 at *
      go_wp2_with fail
      go_loopw [7, 27] (fun v i wr => ∃ k : Nat, k ≤ L.length ∧ i = .int .i64 (k : Int) ∧ ∃ (A' : Option Addr) (c' : Nat), v = .slice A' k c' ∧ wr.ownsRow w3.heap.size 3 1 (.slice A' k c') k ((apartTo L M k).map intV) ∧ Below w3.heap.size w3 wr) (fun _ i _ => L.length - (intOf i).toNat)
      case atStart => exact ⟨0, by omega, rfl, none, 0, rfl, own_nil _ _ _ _, Below.refl _ _⟩
      case round =>
        obtain ⟨k, hk, rfl, A', c', rfl, ho, hbr⟩ := hrel
        by_cases hlt : k < L.length
        · have dk : decide ((k : Int) < (L.length : Int)) = true := decide_eq_true (by omega)
          have hltm : k < M.length := by rw [← HLM.out]; exact hlt
          have dkm : decide ((k : Int) < (M.length : Int)) = true := decide_eq_true (by omega)
          have hlr := hl1.below hbr
          have hmr := hm1.below hbr
          have t3r := keep1 hbr t3
          obtain ⟨a, hAa, hx⟩ := hlr.at hlt
          obtain ⟨b, hBb, hy⟩ := hmr.at hltm
          have hAS := hid (apartTo_succ L M k hlt hltm)
          obtain ⟨hx1, hx2⟩ := hlr.2 L[k] (List.getElem_mem hlt)
          obtain ⟨hy1, hy2⟩ := hmr.2 M[k] (List.getElem_mem hltm)
          have hxs := S1.out L[k] (List.getElem_mem hlt)
          have hys := S2.out M[k] (List.getElem_mem hltm)
          have hxl := A1.out L[k] (List.getElem_mem hlt)
          have hyl := A2.out M[k] (List.getElem_mem hltm)
          generalize L[k] = x at *
          generalize M[k] = y at *
          obtain ⟨xA, xc, xl⟩ := x
          obtain ⟨yA, yc, yl⟩ := y
          simp only at *
          have hx' : wr.cell? (a.add k) = some (.slice xA xl.length xc) := hx
          have hy' : wr.cell? (b.add k) = some (.slice yA yl.length yc) := hy
          have hxyl : xl.length = yl.length := by rw [hxl, hyl, HE.out]
          have HXY := hid hxyl
          have hlenx : xl.length ≤ 4294967295 := by omega
          have FN := hid (farTo_nonneg xl yl)
          have FL := hid (farTo_le xl yl hxs hys)
          have XS := hid hxs
          have YS := hid hys
          subst hAa hBb
          clear hx hy hlr hmr hxl hyl hxyl hxs hys hx2 hy2 s3
          go_wp2_with fail
          generalize wr = w4 at *
          go_loopw [10, 34] (fun f i wq => ∃ (j : Nat) (F : Int), j ≤ xl.length ∧ i = .int .i64 (j : Int) ∧ f = .int .i64 F ∧ Below w4.heap.size w4 wq ∧ Hid (F = farTo xl yl j)) (fun _ i _ => xl.length - (intOf i).toNat)
          case atStart => exact ⟨0, 0, by omega, rfl, rfl, Below.refl _ _, hid rfl⟩
          case round =>
            obtain ⟨j, F, hj, rfl, rfl, hbq, hF⟩ := hrel
            have t4 := keep1 hbq t3r
            have hy4 := keep1 hbq hy'
            by_cases hlj : j < xl.length
            · have dj : decide ((j : Int) < (xl.length : Int)) = true := decide_eq_true (by omega)
              have hljy : j < yl.length := by rw [← HXY.out]; exact hlj
              have djy : decide ((j : Int) < (yl.length : Int)) = true := decide_eq_true (by omega)
              obtain ⟨p, rfl, hcx⟩ := (hx1.below hbq).at hlj
              obtain ⟨q, rfl, hcy⟩ := (hy1.below hbq).at hljy
              have hfs := hid (show farTo xl yl (j + 1) = if farTo xl yl j < absI (xl[j] - yl[j]) then absI (xl[j] - yl[j]) else farTo xl yl j by
                show (if farTo xl yl j < absI (xl.getD j 0 - yl.getD j 0) then absI (xl.getD j 0 - yl.getD j 0) else farTo xl yl j) = _
                rw [show xl.getD j 0 = xl[j] by simp [List.getD, hlj], show yl.getD j 0 = yl[j] by simp [List.getD, hljy]])
              have bx := XS.out xl[j] (List.getElem_mem hlj)
              have bY := YS.out yl[j] (List.getElem_mem hljy)
              have bF0 := FN.out j
              have bF1 := FL.out j
              rw [← hF.out] at bF0 bF1
              generalize xl[j] = X at *
              generalize yl[j] = Y at *
              have z1 : wrap64 (X - Y) = X - Y := by unfold wrap64; omega
              have z2 : wrap64 (Y - X) = Y - X := by unfold wrap64; omega
              go_wp2_with fail
              go_region_held3 (fun w' => w'.cell? ⟨w.heap.size + 1, 3, none⟩ = some (.slice (some b) M.length d) ∧ w'.cell? (b.add k) = some (.slice (some q) yl.length yc) ∧ w'.cell? (q.add j) = some (.int .i64 Y)) (first | exact ⟨t4, hy4, hcy⟩ | go_keep) (fail)
              have z1' : IntKind.i64.wrap (X - Y) = X - Y := by rw [IntKind.wrap_i64]; omega
              have z2' : IntKind.i64.wrap (Y - X) = Y - X := by rw [IntKind.wrap_i64]; omega
              rw [z1', z2']
              have hnext := hid (show (if (if F < X - Y then X - Y else F) < Y - X then Y - X else if F < X - Y then X - Y else F) = farTo xl yl (j + 1) by
                rw [hfs.out, ← hF.out]
                unfold absI
                repeat' split
                all_goals omega)
              generalize (if (if F < X - Y then X - Y else F) < Y - X then Y - X else if F < X - Y then X - Y else F) = F2 at *
              clear z1 z2 z1' z2'
              go_wp2_with fail
              go_roundw
              case rel => exact ⟨j + 1, F2, by omega, by go_num, rfl, drewBelow hbq _, hnext⟩
              case measure => simp [intOf]; omega
            · obtain rfl : j = xl.length := by omega
              have dj : decide ((xl.length : Int) < (xl.length : Int)) = false := decide_eq_false (by omega)
              have ho2 := own_keep' ho hbq
              have hys2 : (apartTo L M k).map intV ++ [intV F] = (apartTo L M (k + 1)).map intV := by rw [hAS.out, ← hF.out]; simp
              have HYS := hid hys2
              have hbw := hbr.trans (hbq.mono hbr.size)
              have hba : Below w3.heap.size w3 (wr.alloc (.cells #[.int .i64 F] 3)) := hbw.alloc hbw.size _
              clear hys2
              go_wp2_with (at_builtin; refine wpList_app rfl (.tmp 62) (.tmp 64) _ rfl elI rfl (ho2.alloc _) (some ⟨wr.heap.size, 0, none⟩) 1 1 rfl [intV F] (Sees.of_alloc _ _ _ rfl) (by simp) (by simp [intV, Value.oneCell']) (k + 1) rfl _ HYS.out (by unfold maxLen; omega) (by omega) hba.size ?_; intro A3 c3 w5 hown hgr hat hbel)
              exact ⟨⟨k + 1, by omega, by go_num, A3, c3, rfl, hown, hba.trans hbel⟩, by simp [intOf]; omega⟩
        · obtain rfl : k = L.length := by omega
          have dk : decide ((L.length : Int) < (L.length : Int)) = false := decide_eq_false (by omega)
          have hlo : L.length = (apartTo L M L.length).length := (apartTo_len L M _).symm
          have hf : ApartPost w 0 (apartTo L M L.length) (.returned (.tuple #[.slice A' L.length c', .int .i64 0])) wr := by
            unfold ApartPost
            rw [if_pos rfl]
            exact ⟨_, rfl, A', c', by rw [← hlo], by rw [← hlo]; exact Joins.ownsRow_le ho hbW.size, hbW.trans (hbr.mono hbW.size)⟩
          clear hlo
          go_wp2_with fail
          go_ret2
          exact hf
    · have dc : ((cl : Int) != (cm : Int)) = true := by simp; omega
      rw [if_neg e2] at hR
      obtain rfl : R = 22 := hR
      clear e2
      go_enter Try.func22, Try.ntmps22
      go_wp2_with fail
      refine (KB.out _ hl0 hm0).mono ?_
      rintro e w1 ⟨rfl, hb1⟩
      have hl1 := hl0.below hb1
      have hm1 := hm0.below hb1
      have hbW := hb.trans (hb1.mono hb.size)
      have ha1 := ha.below hb1
      have hc1 := hc.below hb1
      clear hl0 hm0 ha hc hb hb1 KB
      obtain ⟨s0, s1, s2, s3⟩ := ha1
      obtain ⟨t0, t1, t2, t3⟩ := hc1
      go_wp2_with fail
      go_region_held3 (fun w' => w'.cell? ⟨w.heap.size, 0, none⟩ = some (.int .i64 ch) ∧ w'.cell? ⟨w.heap.size, 1, none⟩ = some (.int .i64 bi) ∧ w'.cell? ⟨w.heap.size, 2, none⟩ = some (.int .i64 ra) ∧ w'.cell? ⟨w.heap.size, 3, none⟩ = some (.slice A L.length c) ∧ w'.cell? ⟨w.heap.size + 1, 0, none⟩ = some (.int .i64 ch') ∧ w'.cell? ⟨w.heap.size + 1, 1, none⟩ = some (.int .i64 bi') ∧ w'.cell? ⟨w.heap.size + 1, 2, none⟩ = some (.int .i64 ra') ∧ w'.cell? ⟨w.heap.size + 1, 3, none⟩ = some (.slice B M.length d)) (first | exact ⟨s0, s1, s2, s3, t0, t1, t2, t3⟩ | go_keep)
        (first | (go_at_call 14; refine (C1.out _ ?_).mono ?_; exact hl1; rintro e wa ⟨rfl, hba⟩; replace s0 := keep1 hba s0; replace s1 := keep1 hba s1; replace s2 := keep1 hba s2; replace s3 := keep1 hba s3; replace t0 := keep1 hba t0; replace t1 := keep1 hba t1; replace t2 := keep1 hba t2; replace t3 := keep1 hba t3; replace hl1 := hl1.below ⟨hba.os, hba.tape, hba.output, hba.size, hba.block⟩; replace hm1 := hm1.below ⟨hba.os, hba.tape, hba.output, hba.size, hba.block⟩; replace hbW := Below.trans hbW (Below.mono (w := _) ⟨hba.os, hba.tape, hba.output, hba.size, hba.block⟩ hbW.size); clear hba C1) | (go_at_call 14; refine (C2.out _ ?_).mono ?_; exact hm1; rintro e wa ⟨rfl, hba⟩; replace s0 := keep1 hba s0; replace s1 := keep1 hba s1; replace s2 := keep1 hba s2; replace s3 := keep1 hba s3; replace t0 := keep1 hba t0; replace t1 := keep1 hba t1; replace t2 := keep1 hba t2; replace t3 := keep1 hba t3; replace hl1 := hl1.below ⟨hba.os, hba.tape, hba.output, hba.size, hba.block⟩; replace hm1 := hm1.below ⟨hba.os, hba.tape, hba.output, hba.size, hba.block⟩; replace hbW := Below.trans hbW (Below.mono (w := _) ⟨hba.os, hba.tape, hba.output, hba.size, hba.block⟩ hbW.size); clear hba C2))
      clear s0 s1 s2 t0 t1 t2
      have hf : ApartPost w 22 (apartTo L M L.length) (.returned (.tuple #[.slice none 0 0, .int .i64 22])) wa := by
        unfold ApartPost
        rw [if_neg (by omega)]
        exact ⟨rfl, hbW⟩
      go_wp2_with fail
      go_ret2
      exact hf
  · rw [if_pos e1] at hR
    obtain rfl : R = q := hR
    clear hq
    have d1 : (R != 0) = true := by simpa using e1
    have d1' : decide (R = 0) = false := decide_eq_false e1
    go_enter Try.func22, Try.ntmps22
    go_wp2_with fail
    refine (KB.out _ hl0 hm0).mono ?_
    rintro e w1 ⟨rfl, hb1⟩
    have hf : ApartPost w R (apartTo L M L.length) (.returned (.tuple #[.slice none 0 0, .int .i64 R])) w1 := by
      unfold ApartPost
      rw [if_neg e1]
      exact ⟨rfl, hb.trans (hb1.mono hb.size)⟩
    go_wp2_with fail
    go_ret2
    exact hf
end Go.Proofs.Ytfinefhebffpcaa
