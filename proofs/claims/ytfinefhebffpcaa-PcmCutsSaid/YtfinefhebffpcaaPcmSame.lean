/- Sounds compared: the reference's and the program's. -/
import Derived.Test.YtfinefhebffpcaaPcmRCheck
import Derived.Laws.StructEq
import Derived.WalkSpells
import Derived.WalkLawsBesides
namespace Go.Proofs.Ytfinefhebffpcaa
set_option linter.unusedVariables false
open Go.RowKit
def sameF (ch bi ra ch' bi' ra' : Int) : Bool := (ch == ch') && ((bi == bi') && (ra == ra'))
theorem eq_format (ch bi ra ch' bi' ra' : Int) (w : World) :
    (Op.equalIn 10000 23 (.agg #[.int .i64 ch, .int .i64 bi, .int .i64 ra]) (.agg #[.int .i64 ch', .int .i64 bi', .int .i64 ra'])).run Try.prog w = .ok (sameF ch bi ra ch' bi' ra') w := by
  have u3 := Try.underlying3
  have a3 := Try.isAgg3
  have z3 := Try.sizeOf3
  have hS : Try.prog.underlying 23 = some (.struct (Try.prog.fieldsOf 23)) := by kernel_rfl
  have hp : Try.prog.stoodInHeld 23 = false := by kernel_rfl
  rw [show (10000 : Nat) = 9999 + 1 from rfl, run_equalIn_agg w 9999 23 _ _ hS hp]
  simp only [Program.fieldsOf, Try.underlying23]
  go_simp
  unfold sameF
  by_cases h1 : ch = ch' <;> by_cases h2 : bi = bi' <;> by_cases h3 : ra = ra' <;> simp [h1, h2, h3]
def ints (L : List Chan) : List (List Int) := L.map (·.l)
def sameS (ch bi ra : Int) (L : List Chan) (ch' bi' ra' : Int) (M : List Chan) : Bool := sameF ch bi ra ch' bi' ra' && decide (ints L = ints M)
theorem ints_succ (L : List Chan) (k : Nat) (h : k < L.length) : ints (L.take (k + 1)) = ints (L.take k) ++ [L[k].l] := by
  unfold ints
  rw [List.take_succ_eq_append_getElem h, List.map_append]
  rfl
theorem ints_ne {L M : List Chan} {k : Nat} (h : k < L.length) (h' : k < M.length) (hne : L[k].l ≠ M[k].l) : decide (ints L = ints M) = false := by
  apply decide_eq_false
  intro he
  apply hne
  have h1 : (ints L)[k]? = (ints M)[k]? := by rw [he]
  unfold ints at h1
  rw [List.getElem?_map, List.getElem?_map, List.getElem?_eq_getElem h, List.getElem?_eq_getElem h'] at h1
  simpa using h1
theorem ints_len {L M : List Chan} (h : L.length ≠ M.length) : decide (ints L = ints M) = false := by
  apply decide_eq_false
  intro he
  apply h
  have := congrArg List.length he
  simpa [ints] using this
theorem below_box2 (w : World) (a b : Obj) : Below w.heap.size w ((w.alloc a).alloc b) := ((Below.refl _ w).alloc (Nat.le_refl _) _).alloc (by simp) _
theorem snd_two (w : World) (ch bi ra : Int) (A : Option Addr) (n c : Nat) (ch' bi' ra' : Int) (B : Option Addr) (m d : Nat) : SndAt ((w.alloc (.cells #[.int .i64 ch, .int .i64 bi, .int .i64 ra, .slice A n c] 26)).alloc (.cells #[.int .i64 ch', .int .i64 bi', .int .i64 ra', .slice B m d] 26)) w.heap.size ch bi ra A n c ∧
    SndAt ((w.alloc (.cells #[.int .i64 ch, .int .i64 bi, .int .i64 ra, .slice A n c] 26)).alloc (.cells #[.int .i64 ch', .int .i64 bi', .int .i64 ra', .slice B m d] 26)) (w.heap.size + 1) ch' bi' ra' B m d := by
  have h1 := (SndAt.new w ch bi ra A n c).below ((Below.refl _ _).alloc (Nat.le_refl _) (.cells #[.int .i64 ch', .int .i64 bi', .int .i64 ra', .slice B m d] 26))
  have h2 := SndAt.new (w.alloc (.cells #[.int .i64 ch, .int .i64 bi, .int .i64 ra, .slice A n c] 26)) ch' bi' ra' B m d
  rw [show (w.alloc (.cells #[.int .i64 ch, .int .i64 bi, .int .i64 ra, .slice A n c] 26)).heap.size = w.heap.size + 1 by simp] at h2
  exact ⟨h1, h2⟩
set_option maxRecDepth 20000 in
set_option maxHeartbeats 4000000 in
theorem rsame_any (ch bi ra : Int) (A : Option Addr) (c : Nat) (L : List Chan) (ch' bi' ra' : Int) (B : Option Addr) (d : Nat) (M : List Chan) (w : World) (hl : SeesL w A L) (hm : SeesL w B M) (h1 : L.length ≤ maxLen) (h2 : M.length ≤ maxLen) :
    Calls Try.prog 21 #[.agg #[.int .i64 ch, .int .i64 bi, .int .i64 ra, .slice A L.length c], .agg #[.int .i64 ch', .int .i64 bi', .int .i64 ra', .slice B M.length d]] w fun e w' => e = .returned (.bool (sameS ch bi ra L ch' bi' ra' M)) ∧ Below w.heap.size w w' := by
  unfold maxLen at h1 h2
  have hq := eq_format ch bi ra ch' bi' ra'
  have hb := below_box2 w (.cells #[.int .i64 ch, .int .i64 bi, .int .i64 ra, .slice A L.length c] 26) (.cells #[.int .i64 ch', .int .i64 bi', .int .i64 ra', .slice B M.length d] 26)
  obtain ⟨ha, hc⟩ := snd_two w ch bi ra A L.length c ch' bi' ra' B M.length d
  obtain ⟨R, hR⟩ : ∃ R, R = sameS ch bi ra L ch' bi' ra' M := ⟨_, rfl⟩
  rw [← hR]
  unfold sameS at hR
  have hl0 := hl.below hb
  have hm0 := hm.below hb
  clear hl hm
  cases hF : sameF ch bi ra ch' bi' ra' with
  | false =>
    rw [hF] at hq hR
    obtain rfl : R = false := by rw [hR]; rfl
    clear hR
    go_enter Try.func21, Try.ntmps21
    go_wp2_with fail
    go_ret
    exact ⟨rfl, hb⟩
  | true =>
    rw [hF] at hq hR
    rw [Bool.true_and] at hR
    by_cases hlen : L.length = M.length
    · have dn : ((L.length : Int) != (M.length : Int)) = false := by simp [hlen]
      have HR := hid hR
      have HLEN := hid hlen
      clear hR hlen
      go_enter Try.func21, Try.ntmps21
      go_wp2_with fail
      generalize (w.alloc (.cells #[.int .i64 ch, .int .i64 bi, .int .i64 ra, .slice A L.length c] 26)).alloc (.cells #[.int .i64 ch', .int .i64 bi', .int .i64 ra', .slice B M.length d] 26) = w0 at *
      go_loopw [5] (fun i wr => ∃ k : Nat, k ≤ L.length ∧ i = .int .i64 (k : Int) ∧ Below w0.heap.size w0 wr ∧ Hid (ints (L.take k) = ints (M.take k))) (fun i _ => L.length - (intOf i).toNat)
      case atStart => exact ⟨0, by omega, rfl, Below.refl _ _, hid rfl⟩
      case round =>
        obtain ⟨k, hk, rfl, hbr, hE⟩ := hrel
        have har := ha.below hbr
        have hcr := hc.below hbr
        have hlr := hl0.below hbr
        have hmr := hm0.below hbr
        obtain ⟨s0, s1, s2, s3⟩ := har
        obtain ⟨t0, t1, t2, t3⟩ := hcr
        by_cases hlt : k < L.length
        · have dk : decide ((k : Int) < (L.length : Int)) = true := decide_eq_true (by omega)
          have hltm : k < M.length := by rw [← HLEN.out]; exact hlt
          have dkm : (k : Int) < (M.length : Int) := by omega
          obtain ⟨a, hAa, hx⟩ := hlr.at hlt
          obtain ⟨b, hBb, hy⟩ := hmr.at hltm
          have HS1 := hid (ints_succ L k hlt)
          have HS2 := hid (ints_succ M k hltm)
          have HNE := hid (fun h => ints_ne hlt hltm h)
          obtain ⟨hx1, hx2⟩ := hlr.2 L[k] (List.getElem_mem hlt)
          obtain ⟨hy1, hy2⟩ := hmr.2 M[k] (List.getElem_mem hltm)
          generalize L[k] = x at *
          generalize M[k] = y at *
          have hx' : wr.cell? (a.add k) = some (.slice x.A x.l.length x.c) := hx
          have hy' : wr.cell? (b.add k) = some (.slice y.A y.l.length y.c) := hy
          have hcall := hid (rints_any x.A y.A x.c y.c x.l y.l)
          subst hAa hBb
          clear hx hy hlr hmr
          go_wp2_with fail
          go_region_held3 (fun w' => w'.cell? ⟨w.heap.size, 3, none⟩ = some (.slice (some a) L.length c) ∧ w'.cell? ⟨w.heap.size + 1, 3, none⟩ = some (.slice (some b) M.length d) ∧ w'.cell? (a.add k) = some (.slice x.A x.l.length x.c) ∧ w'.cell? (b.add k) = some (.slice y.A y.l.length y.c)) (first | exact ⟨s3, t3, hx', hy'⟩ | go_keep)
            (first | (go_at_call 20; refine (hcall.out _ ?_ ?_ hx2 hy2).mono ?_; exact hx1; exact hy1; rintro e w3 ⟨rfl, hb3⟩; replace s3 := keep1 hb3 s3; replace t3 := keep1 hb3 t3; replace hx' := keep1 hb3 hx'; replace hy' := keep1 hb3 hy'))
          have hb3' : Below wr.heap.size wr w3 := undrew hb3
          have hbw3 := hbr.trans (hb3'.mono hbr.size)
          clear hb3 hb3' s0 s1 s2 s3 t0 t1 t2 t3 hx' hy' hx1 hy1
          by_cases hxy : x.l = y.l
          · have dxy : decide (x.l = y.l) = true := decide_eq_true hxy
            rw [dxy]
            rw [hxy] at HS1
            clear hxy dxy
            go_wp2_with fail
            exact ⟨⟨k + 1, by omega, by go_num, hbw3, hid (by rw [HS1.out, HS2.out, hE.out])⟩, by simp [intOf]; omega⟩
          · have dxy : decide (x.l = y.l) = false := decide_eq_false hxy
            rw [dxy]
            obtain rfl : R = false := by rw [HR.out]; exact HNE.out hxy
            clear HR HNE
            go_wp2_with fail
            go_ret
            exact ⟨rfl, hb.trans (hbw3.mono hb.size)⟩
        · obtain rfl : k = L.length := by omega
          have dk : decide ((L.length : Int) < (L.length : Int)) = false := decide_eq_false (by omega)
          obtain rfl : R = true := by
            rw [HR.out]
            have := hE.out
            rw [List.take_length, HLEN.out, List.take_length] at this
            exact decide_eq_true this
          clear HR
          go_wp2_with fail
          go_ret
          exact ⟨rfl, hb.trans (hbr.mono hb.size)⟩
    · have dn : ((L.length : Int) != (M.length : Int)) = true := by simp; omega
      obtain rfl : R = false := by rw [hR, ints_len hlen]
      clear hR
      go_enter Try.func21, Try.ntmps21
      go_wp2_with fail
      go_ret
      exact ⟨rfl, hb⟩
end Go.Proofs.Ytfinefhebffpcaa
