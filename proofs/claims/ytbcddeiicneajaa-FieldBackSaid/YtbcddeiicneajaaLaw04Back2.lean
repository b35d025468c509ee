/- The walk of FieldBack. -/
import Derived.Test.YtbcddeiicneajaaLaw04Back
import Derived.Test.YtbcddeiicneajaaTakerText
import Derived.Test.YtbcddeiicneajaaTakerErr
import Derived.Test.YtbcddeiicneajaaTakerLeft
import Derived.Test.YtbcddeiicneajaaLaw04Known
import Derived.Deep.RegionHeld3
namespace Go.Proofs.Ytbcddeiicneajaa.fieldBack
set_option linter.unusedVariables false
open Go.RowKit fieldMakes
theorem keepBut {g : Nat} {w w' : World} {a : Addr} {v : Value} (hb : But (Only g) w w') (hne : a.block ≠ g) (h : w.cell? a = some v) : w'.cell? a = some v :=
  (World.cell?_of_block (w := w) (hb.block _ (block_lt_of_cell h) hne)).trans h
theorem keepA {g m : Nat} {w w' : World} {a : Addr} {v : Value} (hb : But (Only g) w w') (hne : a.block ≠ g) (h : w.cell? (a.add m) = some v) : w'.cell? (a.add m) = some v :=
  keepBut hb (by rw [addr_block]; exact hne) h
theorem keepR {g m o : Nat} {w w' : World} {a : Addr} {v : Value} (hb : But (Only g) w w') (hne : a.block ≠ g) (h : w.cell? { block := (a.add m).block, off := o } = some v) : w'.cell? { block := (a.add m).block, off := o } = some v :=
  keepBut hb (by show (a.add m).block ≠ g; rw [addr_block]; exact hne) h
theorem undrewB {R : Nat → Prop} {w w' : World} (h : But R w.drew w') : But R w w' := ⟨h.os, h.tape, h.output, h.size, h.block⟩
set_option maxRecDepth 20000 in
set_option maxHeartbeats 4000000 in
theorem walk (A : Option Addr) (c : Nat) (l : List Deed) (w : World) (hb : SeesA w A l ∧ l.length ≤ c ∧ c ≤ maxLen ∧ ∀ x ∈ l, x.fine) :
    Calls Try.prog 5 #[.slice A l.length c] w fun e w' => e = .returned (.bool true) ∧ Below w.heap.size w w' := by
  obtain ⟨hl, hc1, hc2, hfine⟩ := hb
  have hfew := hid (few_any A c l w hl ⟨hc1, hc2⟩)
  clear hc1 hc2
  go_enter Try.func5, Try.ntmps5
  go_wp2_with fail
  refine hfew.out.mono ?_
  rintro e w1 ⟨b, rfl, rfl, hbt⟩
  cases b with
  | false =>
    go_wp2_with fail
    refine (known_any _).mono ?_
    rintro e w2 ⟨rfl, hb2⟩
    go_wp2_with fail
    go_ret
    exact ⟨rfl, hb2⟩
  | true =>
  obtain ⟨hlen, hsz⟩ := hbt rfl
  have hm0 := mk_new w
  have hb0 : Below w.heap.size w (w.alloc (.cells #[.int .i64 0, .slice none 0 0] 31)) := (Below.refl _ w).alloc (Nat.le_refl _) _
  clear hfew
  go_wp2_with fail
  generalize w.alloc (.cells #[.int .i64 0, .slice none 0 0] 31) = w0 at *
  go_loopw [4] (fun i wr => ∃ k : Nat, k ≤ l.length ∧ i = .int .i64 k ∧ ∃ (R : Nat → Prop), Mk wr w.heap.size R (laid (l.take k)).1 (laid (l.take k)).2 ∧ (∀ b, R b → w.heap.size ≤ b) ∧ Below w.heap.size w wr) (fun i _ => l.length - (intOf i).toNat)
  case atStart => exact ⟨0, by omega, rfl, _, hm0, fun b h => Nat.le_of_eq h.symm, hb0⟩
  case round =>
    obtain ⟨k, hk, rfl, R, hm, hR, hbw⟩ := hrel
    have hll := laid_len l hsz k hk
    by_cases hlt : k < l.length
    · have hd : decide (k < l.length) = true := by simp; omega
      obtain ⟨a, rfl, g0, g1, g2, g3⟩ := (hl.below hbw).at hlt
      have hst := laid_step l k hlt
      have hsk := hsz l[k] (List.getElem_mem _)
      have hdo := hid (do_any w.heap.size R (laid (l.take k)).1 (laid (l.take k)).2 l[k].k l[k].v l[k].n l[k].s wr hm (hfine _ (List.getElem_mem _)) (by omega))
      have HST := hid hst
      clear hst
      go_wp2_with fail
      refine hdo.out.mono ?_
      rintro e w2 ⟨A2, c2, rfl, hs2, R2, hm2, hB2, hR2⟩
      rw [show lay ((laid (l.take k)).1, (laid (l.take k)).2) (actR l[k].k l[k].v l[k].n l[k].s.data.toList) = laid (l.take (k + 1)) from HST.out.symm] at hm2
      have hbw1 := But.below hbw hB2 hR hbw.size
      clear hdo g0 g1 g2 g3 hs2
      go_wp2_with fail
      exact ⟨⟨k + 1, hlt, by go_num, R2, hm2, fun b h => (hR2 b h).elim (hR b) (fun h => Nat.le_trans hbw.size h), hbw1⟩, by simp [intOf]; omega⟩
    · obtain rfl : k = l.length := by omega
      have hd : decide (l.length < l.length) = false := by simp
      rw [List.take_length] at hm hll
      by_cases h0 : (laid l).1 = 0
      · have hat := hid (laid_at l h0)
        obtain ⟨B, hB⟩ : ∃ B, B = (laid l).2 := ⟨_, rfl⟩
        rw [h0, ← hB] at hm
        have hBl : B.length ≤ 15400 := by rw [hB]; omega
        have HB := hid hB
        clear hB h0 hll
        go_wp2_with fail
        refine (bytes_ok w.heap.size R B wr hm (by omega)).mono ?_
        rintro e w3 ⟨v, rfl, hv⟩
        obtain ⟨A3, c3, rfl, hs3, hA3, ho3, hb3⟩ := hv.parts
        have hbw3 := hbw.trans (hb3.mono hbw.size)
        go_wp2_with fail
        refine (take_any A3 c3 B w3 hs3 (by omega)).mono ?_
        rintro e w4 ⟨g, rfl, hg, hTk, hb4⟩
        have hbw4 := hbw3.trans (hb4.mono hbw3.size)
        have hgw : w.heap.size ≤ g := Nat.le_trans hbw3.size hg
        clear hm hR hbw hv hs3 hA3 ho3 hb3 hb4 hbw3
        go_wp2_with fail
        go_loopw [8, 9] (fun i x wq => ∃ k : Nat, k ≤ l.length ∧ i = .int .i64 k ∧ Tk wq g 0 (laid (l.take k)).2.length B ∧ But (Only g) w4 wq) (fun i _ _ => l.length - (intOf i).toNat)
        case atStart => exact ⟨0, by omega, rfl, hTk, But.refl _ _⟩
        case round =>
          clear hTk
          obtain ⟨k, hk, rfl, hT, hBW⟩ := hrel
          have hbW : Below w.heap.size w wr := But.below hbw4 hBW (fun n h => by rw [show n = g from h]; exact hgw) hbw4.size
          by_cases hlt : k < l.length
          · have hd : decide (k < l.length) = true := by simpa using hlt
            obtain ⟨a, rfl, g0, g1, g2, g3⟩ := (hl.below hbW).at hlt
            have hab : a.block < w.heap.size := by
              obtain ⟨a', ha', h0, _⟩ := hl k hlt
              injection ha' with ha'
              subst ha'
              have := block_lt_of_cell h0
              rwa [addr_block] at this
            have hag : a.block ≠ g := by omega
            obtain ⟨hr0, hnx, rest, hBx⟩ := hat.out k hlt
            have hfk := hfine l[k] (List.getElem_mem _)
            have hsk := hsz l[k] (List.getElem_mem _)
            rw [← HB.out] at hBx
            generalize hP : (laid (l.take k)).2 = P at *
            have hTd : Tk wr.drew g 0 P.length B := hT.below ⟨rfl, rfl, rfl, Nat.le_refl _, fun _ _ => rfl⟩
            have HNX := hid hnx
            have HR := hid (show actR l[k].k l[k].v l[k].n l[k].s.data.toList = res l[k] from rfl)
            clear hP hnx
            generalize hD : l[k] = D at *
            clear hD
            obtain ⟨X, hX⟩ : ∃ X, X = (res D).2 := ⟨_, rfl⟩
            rw [← hX] at hBx
            have HX := hid hX
            have hw64 : -9223372036854775808 ≤ wrap64 (D.v : Int) ∧ wrap64 (D.v : Int) < 9223372036854775808 := by have := wrap_i64_range (D.v : Int); rwa [IntWalk.i64_left] at this
            clear hX
            by_cases k0 : D.k = 0
            · have e0 : (D.k == 0) = true := by simpa using k0
              have hres : res D = refU D.v D.n := by rw [← HR.out]; unfold actR; rw [if_pos k0]
              rw [hres] at hr0
              obtain ⟨n1, n8, _, hXl, hXv⟩ := refU_back hfk hr0
              rw [← hres, ← HX.out] at hXl hXv
              have hcall := fun W (hT : Tk W g 0 P.length B) => takerU_any g 0 P.length D.n B W hT (by omega)
              rw [hBx, takeU_at P X rest D.n ⟨n1, n8⟩ hXl, ← hBx] at hcall
              unfold UPost at hcall
              rw [hXv] at hcall
              have HC := hid hcall
              clear hcall k0 hres hr0 hXl hXv hBx
              go_wp2_with fail
              go_region_held3 (fun w' => w'.cell? (a.add (k * 4)) = some (.int .i64 D.k) ∧ w'.cell? { block := (a.add (k * 4)).block, off := (a.add (k * 4)).off + 1 } = some (.int .u64 (D.v : Int)) ∧ w'.cell? { block := (a.add (k * 4)).block, off := (a.add (k * 4)).off + 2 } = some (.int .i64 D.n) ∧ w'.cell? { block := (a.add (k * 4)).block, off := (a.add (k * 4)).off + 3 } = some (.string D.s)) (exact ⟨g0, g1, g2, g3⟩)
                (first | (go_at_call 15; refine (HC.out _ ?_).mono ?_; exact hTd; rintro e wa ⟨rfl, hTa, hBa⟩; replace g0 := keepA hBa hag g0; replace g1 := keepR hBa hag g1; replace g2 := keepR hBa hag g2; replace g3 := keepR hBa hag g3))
              go_wp2_with fail
              exact ⟨⟨k + 1, hlt, by go_num, by rw [HNX.out, List.length_append, ← HX.out]; exact hTa, hBW.trans (undrewB hBa) (fun n h => .inl h)⟩, by simp [intOf]; omega⟩
            have e0 : (D.k == 0) = false := by simpa using k0
            by_cases k1 : D.k = 1
            · have e1 : (D.k == 1) = true := by simpa using k1
              have hself : (wrap64 (D.v : Int) == wrap64 (D.v : Int)) = true := by simp
              have hres : res D = refI (wrap64 D.v) D.n := by rw [← HR.out]; unfold actR; rw [if_neg k0, if_pos k1, IntWalk.i64_left]
              rw [hres] at hr0
              obtain ⟨n1, n8, hXl, hXv⟩ := refI_back hw64 hr0
              rw [← hres, ← HX.out] at hXl hXv
              have hcall := fun W (hT : Tk W g 0 P.length B) => takerI_any g 0 P.length D.n B W hT (by omega)
              rw [hBx, takeU_at P X rest D.n ⟨n1, n8⟩ hXl, ← hBx] at hcall
              unfold IPost at hcall
              simp only [if_true] at hcall
              rw [hXv] at hcall
              have HC := hid hcall
              clear hcall k0 k1 hres hr0 hXl hXv hBx
              go_wp2_with fail
              go_region_held3 (fun w' => w'.cell? (a.add (k * 4)) = some (.int .i64 D.k) ∧ w'.cell? { block := (a.add (k * 4)).block, off := (a.add (k * 4)).off + 1 } = some (.int .u64 (D.v : Int)) ∧ w'.cell? { block := (a.add (k * 4)).block, off := (a.add (k * 4)).off + 2 } = some (.int .i64 D.n) ∧ w'.cell? { block := (a.add (k * 4)).block, off := (a.add (k * 4)).off + 3 } = some (.string D.s)) (exact ⟨g0, g1, g2, g3⟩)
                (first | (go_at_call 17; refine (HC.out _ ?_).mono ?_; exact hTd; rintro e wa ⟨rfl, hTa, hBa⟩; replace g0 := keepA hBa hag g0; replace g1 := keepR hBa hag g1; replace g2 := keepR hBa hag g2; replace g3 := keepR hBa hag g3))
              go_wp2_with fail
              all_goals first
                | exact ⟨⟨k + 1, hlt, by go_num, by rw [HNX.out, List.length_append, ← HX.out]; exact hTa, hBW.trans (undrewB hBa) (fun n h => .inl h)⟩, by simp [intOf]; omega⟩
                | (rename_i hh; simp at hh)
            have e1 : (D.k == 1) = false := by simpa using k1
            by_cases k2 : D.k = 2
            · have e2 : (D.k == 2) = true := by simpa using k2
              have hres : res D = (0, D.s.data.toList) := by rw [← HR.out]; unfold actR; rw [if_neg k0, if_neg k1, if_pos k2]
              have hXs : X = D.s.data.toList := by rw [HX.out, hres]
              have hXn : X.length = D.s.size := by rw [hXs, Array.length_toList]; rfl
              obtain ⟨cc, wc, hconv, hbc, hsc, _⟩ := conv_sb D.s wr
              have hTc := hT.below hbc
              have hglt : g < wr.heap.size := by obtain ⟨_, _, hg0, _⟩ := hT; exact (Array.getElem?_eq_some_iff.1 hg0).1
              have hBc := hBW.trans (But.of_below (R := fun _ => False) hbc) (fun n h => h.elim)
              rw [← hXs] at hsc
              have hcall := tisb_any g 0 P.length B (some ⟨wr.heap.size, 0, none⟩) cc X wc hTc hsc (fun a ha => by injection ha with ha; subst ha; exact fun h => by have h2 : wr.heap.size = g := h; omega) (by omega) (by rw [hXn]; omega)
              rw [hXn, show tisR (0, P.length) B X = ((0, P.length + X.length), true) by
                unfold tisR; rw [if_neg (by simp), hBx, if_neg (by simp), List.drop_left, List.take_left, decide_eq_true rfl]] at hcall
              have HC := hid hcall
              clear hcall k0 k1 k2 hres hr0 hXs hBx hTc hsc hXn
              go_wp2_with fail
              refine HC.out.mono ?_
              rintro e w9 ⟨rfl, hTa, hBa⟩
              go_wp2_with fail
              exact ⟨⟨k + 1, hlt, by go_num, by rw [HNX.out, List.length_append, ← HX.out]; exact hTa, hBc.trans hBa (fun n h => .inl h)⟩, by simp [intOf]; omega⟩
            have e2 : (D.k == 2) = false := by simpa using k2
            by_cases k3 : D.k = 3
            · have e3 : (D.k == 3) = true := by simpa using k3
              have hres : res D = refText D.s.data.toList D.n := by rw [← HR.out]; unfold actR; rw [if_neg k0, if_neg k1, if_neg k2, if_pos k3]
              have hsl : D.s.data.toList.length = D.s.size := by rw [Array.length_toList]; rfl
              obtain ⟨st, hst⟩ : ∃ st, st = D.s.data.toList := ⟨_, rfl⟩
              rw [← hst] at hres hsl
              have hrU : (refU st.length D.n).1 = 0 ∧ X = (refU st.length D.n).2 ++ st := by
                rw [HX.out, hres]
                rw [hres] at hr0
                unfold refText at hr0 ⊢
                by_cases h : (refU st.length D.n).1 ≠ 0
                · rw [if_pos h] at hr0; exact absurd hr0 h
                · rw [if_neg h]; exact ⟨by omega, rfl⟩
              obtain ⟨n1, n8, hXb, hXl, hXv⟩ := refU_back (by omega) hrU.1
              obtain ⟨N, hN⟩ := Int.eq_ofNat_of_zero_le (show 0 ≤ D.n by omega)
              have hNN : D.n.toNat = N := by omega
              rw [hNN] at hXb hXl
              have hXe := hrU.2
              rw [hXb] at hXe hXv
              have hBx2 : B = P ++ (bytesLE st.length N ++ (st ++ rest)) := by rw [hBx, hXe, List.append_assoc]
              have hBx3 : B = (P ++ bytesLE st.length N) ++ (st ++ rest) := by rw [hBx2, List.append_assoc]
              have hlb : (bytesLE st.length N).length = N := bytesLE_length _ _
              have hu : takeU (0, P.length) B (N : Int) = ((0, P.length + N), bytesLE st.length N) := by
                have := takeU_at P (bytesLE st.length N) (st ++ rest) (N : Int) (by omega) (by rw [hlb]; omega)
                rw [← hBx2, hlb] at this; exact this
              have hs : tnext (P.length + N) B st.length = ((0, P.length + N + st.length), st) := by
                have := tnext_at (P ++ bytesLE st.length N) st rest
                rw [← hBx3, List.length_append, hlb] at this; exact this
              have hle : P.length + N + st.length ≤ B.length := by rw [hBx3]; simp only [List.length_append, hlb]; omega
              have hXn : X.length = N + st.length := by rw [hXe, List.length_append, hlb]
              have hstr : (⟨st.toArray⟩ : ByteArray) = D.s := by rw [hst]
              have hcall := fun W (hT : Tk W g 0 P.length B) => ttext_ok g P.length N B st W hT (by omega) (by omega) hu hXv hs hle
              unfold TextPost at hcall
              rw [hstr, ← hN, Nat.add_assoc, ← hXn] at hcall
              have HC := hid hcall
              clear hcall k0 k1 k2 k3 hres hr0 hBx hBx2 hBx3 hu hs hle hXn hstr hXe hXv hXb hXl hrU hlb hst hN hNN hsl
              go_wp2_with fail
              go_region_held3 (fun w' => w'.cell? (a.add (k * 4)) = some (.int .i64 D.k) ∧ w'.cell? { block := (a.add (k * 4)).block, off := (a.add (k * 4)).off + 1 } = some (.int .u64 (D.v : Int)) ∧ w'.cell? { block := (a.add (k * 4)).block, off := (a.add (k * 4)).off + 2 } = some (.int .i64 D.n) ∧ w'.cell? { block := (a.add (k * 4)).block, off := (a.add (k * 4)).off + 3 } = some (.string D.s)) (exact ⟨g0, g1, g2, g3⟩)
                (first | (go_at_call 19; refine (HC.out _ ?_).mono ?_; exact hTd; rintro e wa ⟨rfl, hTa, hBa⟩; replace g0 := keepA hBa hag g0; replace g1 := keepR hBa hag g1; replace g2 := keepR hBa hag g2; replace g3 := keepR hBa hag g3))
              go_wp2_with fail
              exact ⟨⟨k + 1, hlt, by go_num, by rw [HNX.out, List.length_append, ← HX.out]; exact hTa, hBW.trans (undrewB hBa) (fun n h => .inl h)⟩, by simp [intOf]; omega⟩
            have e3 : (D.k == 3) = false := by simpa using k3
            have hres : res D = (0, []) := by rw [← HR.out]; unfold actR; rw [if_neg k0, if_neg k1, if_neg k2, if_neg k3]
            have hXn : X = [] := by rw [HX.out, hres]
            have HXN := hid hXn
            clear k0 k1 k2 k3 hres hr0 hBx hXn
            go_wp2_with fail
            exact ⟨⟨k + 1, hlt, by go_num, by rw [HNX.out, List.length_append, ← HX.out, HXN.out]; exact hT, hBW⟩, by simp [intOf]; omega⟩
          · obtain rfl : k = l.length := by omega
            have hd : decide (l.length < l.length) = false := by simp
            rw [List.take_length, ← HB.out] at hT
            obtain ⟨_, _, k0, k1, k2, _⟩ := hT.cells
            have hlf0 := tleft_is g 0 B.length B wr hT (by omega)
            rw [if_pos rfl, Nat.sub_self] at hlf0
            have hlf := hid hlf0
            clear hlf0
            go_wp2_with fail
            refine (terr_is g 0 wr k0).mono ?_
            rintro e w5 ⟨rfl, rfl⟩
            go_wp2_with fail
            refine hlf.out.mono ?_
            rintro e w5 ⟨rfl, hb5⟩
            have k2' : w5.cell? ⟨g, 2, none⟩ = some (.int .i64 (B.length : Int)) := (hb5.cell (block_lt_of_cell k2)).trans k2
            go_wp2_with fail
            refine (tat_is g _ w5 k2').mono ?_
            rintro e w6 ⟨rfl, rfl⟩
            go_wp2_with fail
            refine (known_any _).mono ?_
            rintro e w7 ⟨rfl, hb7⟩
            have hbz := (hbW.trans (hb5.mono hbW.size)).trans (hb7.mono (Nat.le_trans hbW.size hb5.size))
            go_wp2_with fail
            go_ret
            exact ⟨rfl, hbz⟩
      · have d3 : ((laid l).1 != 0) = true := by simpa using h0
        go_wp2_with fail
        refine (bytes_bad w.heap.size R _ _ wr hm h0).mono ?_
        rintro e w3 ⟨rfl, hb3⟩
        have hbw3 := hbw.trans (hb3.mono hbw.size)
        clear hm hll
        go_wp2_with fail
        refine (known_any _).mono ?_
        rintro e w7 ⟨rfl, hb7⟩
        go_wp2_with fail
        go_ret
        exact ⟨rfl, hbw3.trans (hb7.mono hbw3.size)⟩
end Go.Proofs.Ytbcddeiicneajaa.fieldBack
