/- The maker: U, where all is well. -/
import Derived.Test.YtbcddeiicneajaaField
namespace Go.Proofs.Ytbcddeiicneajaa
set_option linter.unusedVariables false
open Go.RowKit
/-- the maker's row has grown, and is stored back -/
theorem mk_grow {w w1 w' : World} {g : Nat} {R : Nat → Prop} {err : Int} {l l' : List UInt8} {A A' : Option Addr} {c c' : Nat}
    (hg : w.heap[g]? = some (.cells #[.int .i64 err, .slice A l.length c] 31 (0, 0))) (ho : w.ownsRow 0 5 1 (.slice A l.length c) l.length (l.map byteV)) (hr : R g) (ha : ∀ a, A = some a → R a.block) (hz : ∀ b, R b → b < w.heap.size)
    (h1 : Below w.heap.size w w1) (hown : w'.ownsRow 0 5 1 (.slice A' l'.length c') l'.length (l'.map byteV)) (hgr : w1.grownBy w' (Value.slice A l.length c).ownBlock)
    (hat : (Value.slice A' l'.length c').ownBlock = (Value.slice A l.length c).ownBlock ∨ (Value.slice A' l'.length c').ownBlock = some w1.heap.size) :
    (w'.cell? ⟨g, 1, none⟩ = some (.slice A l.length c) ∧ w'.frozen? ⟨g, 1, none⟩ = false) ∧
    ∃ R', Mk (w'.setCell ⟨g, 1, none⟩ (.slice A' l'.length c')) g R' err l' ∧ But R w (w'.setCell ⟨g, 1, none⟩ (.slice A' l'.length c')) ∧ ∀ b, R' b → R b ∨ w.heap.size ≤ b := by
  have hlt := (Array.getElem?_eq_some_iff.1 hg).1
  have hne : (Value.slice A l.length c).ownBlock ≠ some g := own_other ho hg (by decide)
  have hg1 : w1.heap[g]? = some (.cells #[.int .i64 err, .slice A l.length c] 31 (0, 0)) := (h1.block g hlt).trans hg
  have hg' : w'.heap[g]? = some (.cells #[.int .i64 err, .slice A l.length c] 31 (0, 0)) := (hgr.block g (Nat.lt_of_lt_of_le hlt h1.size) (fun h => hne h.symm)).trans hg1
  have hne' : (Value.slice A' l'.length c').ownBlock ≠ some g := own_other hown hg' (by decide)
  have hrow : ∀ b, (Value.slice A l.length c).ownBlock = some b → R b := by
    intro b hb
    cases A with
    | none => simp [Value.ownBlock] at hb
    | some a => simp [Value.ownBlock] at hb; subst hb; exact ha a rfl
  refine ⟨⟨by rw [cell_of_row _ _ _ _ _ _ hg']; rfl, frozen_of_row _ _ _ _ _ hg'⟩, fun b => R b ∨ some b = (Value.slice A' l'.length c').ownBlock, ?_, ?_, ?_⟩
  · refine ⟨A', c', heap_setCell_same w' g 1 _ _ _ hg', ?_, .inl hr, fun a h => .inr (by subst h; rfl), fun b hb => ?_⟩
    rotate_left
    · show b < (w'.setCell _ _).heap.size
      have hsz : (w'.setCell ⟨g, 1, none⟩ (.slice A' l'.length c')).heap.size = w'.heap.size := by simp [World.setCell]
      rw [hsz]
      rcases hb with hb | hb
      · exact Nat.lt_of_lt_of_le (hz b hb) (Nat.le_trans h1.size hgr.size)
      · obtain ⟨A2, c2, hv2, _, hb2⟩ := own_form hown
        cases A' with
        | none => simp [Value.ownBlock] at hb
        | some a' =>
          injection hv2 with hv2 _ _
          have := (hb2 a' hv2.symm).2.2
          simp [Value.ownBlock] at hb
          rw [hb]; exact this
    refine ⟨hown.1, ?_⟩
    rcases hown.2 with h0 | ⟨g', cap, cur, hv, hb1, hb2, hb3⟩
    · exact .inl h0
    · refine .inr ⟨g', cap, cur, hv, hb1, (heap_setCell_other w' _ g' _ ?_).trans hb2, hb3⟩
      intro hgg
      rw [hv] at hne'
      exact hne' (by simpa [Value.ownBlock] using hgg)
  · refine ⟨hgr.os.trans h1.os, hgr.tape.trans h1.tape, hgr.output.trans h1.output, Nat.le_trans h1.size (by simpa [World.setCell] using hgr.size), fun b hb hR => ?_⟩
    refine (heap_setCell_other w' _ b _ (fun h => hR (by rw [h]; exact hr))).trans ?_
    refine (hgr.block b (Nat.lt_of_lt_of_le hb h1.size) ?_).trans (h1.block b hb)
    intro h
    exact hR (hrow b h.symm)
  · intro b hb
    rcases hb with hb | hb
    · exact .inl hb
    · rcases hat with h | h
      · exact .inl (hrow b (by rw [← h]; exact hb.symm))
      · right
        rw [h] at hb
        injection hb with hb
        rw [hb]; exact h1.size
set_option maxHeartbeats 1000000 in
theorem makerU_ok (g : Nat) (R : Nat → Prop) (l : List UInt8) (v N : Nat) (w : World) (hm : Mk w g R 0 l) (hv : v < 18446744073709551616) (hN : 1 ≤ N ∧ N ≤ 8) (hv2 : N = 8 ∨ v < 256 ^ N) (hl : l.length ≤ 140737488355000) :
    Calls Try.prog 13 #[.pointer (some ⟨g, 0, none⟩), .int .u64 (v : Int), .int .i64 (N : Int)] w (MkPost w g R (0, l ++ bytesLE v N)) := by
  have hc0 := hm.cell0
  have hf0 := hm.fr 0
  have key : (N : Int) < 8 → ((v : Int) / 2 ^ (8 * N) != 0) = false := by
    intro h8
    have e : (2 : Int) ^ (8 * N) = ((256 ^ N : Nat) : Int) := by rw [Int.natCast_pow]; rw [Int.pow_mul]; rfl
    rw [e]
    have h4 : v < 256 ^ N := by rcases hv2 with h | h; · omega
                                · exact h
    have : v / 256 ^ N = 0 := Nat.div_eq_of_lt h4
    have h5 : ((v / 256 ^ N : Nat) : Int) = 0 := by rw [this]; rfl
    rw [Int.natCast_ediv] at h5
    rw [h5]; rfl
  by_cases h8 : N < 8
  · have d3 : (N : Int) < 8 := by omega
    have d4 := key d3
    clear key hv2
    go_enter Try.func13, Try.ntmps13
    go_wp2_with fail
    refine (mready_is g 0 true _ hc0 rfl).mono ?_
    rintro e w' ⟨rfl, rfl⟩
    go_wp2_with fail
    refine (may_yes g _ _ hc0 (by omega)).mono ?_
    rintro e w' ⟨rfl, rfl⟩
    go_wp2_with fail
    go_loopw [1, 31] (fun x i wr => ∃ k : Nat, k ≤ N ∧ i = .int .i64 k ∧ x = .int .u64 ((v / 256 ^ k : Nat) : Int) ∧ ∃ Rk, Mk wr g Rk 0 (l ++ bytesLE v k) ∧ But R w wr ∧ ∀ b, Rk b → R b ∨ w.heap.size ≤ b) (fun _ i _ => N - (intOf i).toNat)
    case atStart => exact ⟨0, by omega, rfl, by simp, R, by simpa [bytesLE] using hm, But.refl _ _, fun b h => .inl h⟩
    case round =>
      obtain ⟨k, hk, rfl, rfl, Rk, hmk, hbk, hRk⟩ := hrel
      have hMK := hmk
      obtain ⟨A, c, hg, ho, hr, ha, hz⟩ := hmk
      have hle : (l ++ bytesLE v k).length ≤ 140737488355010 := by rw [List.length_append, bytesLE_length]; omega
      have hdv : v / 256 ^ k ≤ v := Nat.div_le_self _ _
      have hdiv : v / 256 ^ (k + 1) = v / 256 ^ k / 256 := by rw [Nat.pow_succ, Nat.div_div_eq_div_mul]
      have hsn := bytesLE_snoc v k
      by_cases hlt : k < N
      · obtain ⟨m, hml⟩ : ∃ m, m = l ++ bytesLE v k := ⟨_, rfl⟩
        obtain ⟨x, hx⟩ : ∃ x, x = UInt8.ofNat (v / 256 ^ k % 256) := ⟨_, rfl⟩
        obtain ⟨m', hm'⟩ : ∃ m', m' = m ++ [x] := ⟨_, rfl⟩
        have hlast : m' = l ++ bytesLE v (k + 1) := by rw [hm', hsn, hx, hml, List.append_assoc]
        rw [← hml] at hg ho hle
        have hmm : m'.map byteV = m.map byteV ++ [byteV x] := by rw [hm']; simp
        have hml' : m.length + 1 = m'.length := by rw [hm']; simp
        have hxv : byteV x = .int .u8 (((v / 256 ^ k : Nat) : Int) % 256) := by
          rw [hx, byteV, UInt8.toNat_ofNat', Nat.mod_eq_of_lt (by omega)]; rfl
        have HLA := hid hlast
        have HDI := hid hdiv
        have HMM := hid hmm
        have HML := hid hml'
        have HXV := hid hxv
        generalize hy : v / 256 ^ k = y at hdv HDI HXV
        clear hml hx hm' hlast hdiv hmm hml' hxv hsn hy hMK
        have hc1 : wr.cell? ⟨g, 1, none⟩ = some (.slice A m.length c) := by rw [cell_of_row _ _ _ _ _ _ hg]; rfl
        have HG := hid hg
        clear hg
        have hd : decide ((k : Int) < N) = true := by simp; omega
        have hbel : Below wr.heap.size wr (wr.alloc (.cells #[.int .u8 ((y : Int) % 256)] 5)) := (Below.refl _ _).alloc (Nat.le_refl _) _
        go_wp2_with (at_builtin; refine wpList_app rfl (.tmp 37) (.tmp 40) _ rfl elB rfl (ho.alloc _) (some ⟨wr.heap.size, 0, none⟩) 1 1 rfl [byteV x] (Sees.of_alloc _ _ _ (by rw [HXV.out])) (by simp) (by simp [byteV, Value.oneCell']) m'.length HML.out (m'.map byteV) HMM.out.symm (by have := HML.out; unfold maxLen; omega) (by have := HML.out; omega) (Nat.zero_le _) ?_; intro A' c' w' hown hgr hat hb0; obtain ⟨⟨hp1, hp2⟩, R', hmk', hbut', hR'⟩ := mk_grow HG.out ho hr ha hz hbel hown hgr hat)
        exact ⟨⟨k + 1, by omega, by go_num, by rw [HDI.out]; rfl, R', HLA.out ▸ hmk', hbk.trans hbut' hRk, fun b hb => by
          rcases hR' b hb with h | h
          · exact hRk b h
          · exact .inr (Nat.le_trans hbk.size h)⟩, by simp [intOf]; omega⟩
      · obtain rfl : k = N := by omega
        clear hdiv hsn hg hdv
        go_wp2_with fail
        go_end0
        exact ⟨rfl, Rk, hMK, hbk, hRk⟩
  · have d3 : ¬ (N : Int) < 8 := by omega
    have d3' : decide ((N : Int) < 8) = false := by simp; omega
    clear key hv2
    go_enter Try.func13, Try.ntmps13
    go_wp2_with fail
    refine (mready_is g 0 true _ hc0 rfl).mono ?_
    rintro e w' ⟨rfl, rfl⟩
    go_wp2_with fail
    refine (may_yes g _ _ hc0 (by omega)).mono ?_
    rintro e w' ⟨rfl, rfl⟩
    go_wp2_with fail
    go_loopw [1, 31] (fun x i wr => ∃ k : Nat, k ≤ N ∧ i = .int .i64 k ∧ x = .int .u64 ((v / 256 ^ k : Nat) : Int) ∧ ∃ Rk, Mk wr g Rk 0 (l ++ bytesLE v k) ∧ But R w wr ∧ ∀ b, Rk b → R b ∨ w.heap.size ≤ b) (fun _ i _ => N - (intOf i).toNat)
    case atStart => exact ⟨0, by omega, rfl, by simp, R, by simpa [bytesLE] using hm, But.refl _ _, fun b h => .inl h⟩
    case round =>
      obtain ⟨k, hk, rfl, rfl, Rk, hmk, hbk, hRk⟩ := hrel
      have hMK := hmk
      obtain ⟨A, c, hg, ho, hr, ha, hz⟩ := hmk
      have hle : (l ++ bytesLE v k).length ≤ 140737488355010 := by rw [List.length_append, bytesLE_length]; omega
      have hdv : v / 256 ^ k ≤ v := Nat.div_le_self _ _
      have hdiv : v / 256 ^ (k + 1) = v / 256 ^ k / 256 := by rw [Nat.pow_succ, Nat.div_div_eq_div_mul]
      have hsn := bytesLE_snoc v k
      by_cases hlt : k < N
      · obtain ⟨m, hml⟩ : ∃ m, m = l ++ bytesLE v k := ⟨_, rfl⟩
        obtain ⟨x, hx⟩ : ∃ x, x = UInt8.ofNat (v / 256 ^ k % 256) := ⟨_, rfl⟩
        obtain ⟨m', hm'⟩ : ∃ m', m' = m ++ [x] := ⟨_, rfl⟩
        have hlast : m' = l ++ bytesLE v (k + 1) := by rw [hm', hsn, hx, hml, List.append_assoc]
        rw [← hml] at hg ho hle
        have hmm : m'.map byteV = m.map byteV ++ [byteV x] := by rw [hm']; simp
        have hml' : m.length + 1 = m'.length := by rw [hm']; simp
        have hxv : byteV x = .int .u8 (((v / 256 ^ k : Nat) : Int) % 256) := by
          rw [hx, byteV, UInt8.toNat_ofNat', Nat.mod_eq_of_lt (by omega)]; rfl
        have HLA := hid hlast
        have HDI := hid hdiv
        have HMM := hid hmm
        have HML := hid hml'
        have HXV := hid hxv
        generalize hy : v / 256 ^ k = y at hdv HDI HXV
        clear hml hx hm' hlast hdiv hmm hml' hxv hsn hy hMK
        have hc1 : wr.cell? ⟨g, 1, none⟩ = some (.slice A m.length c) := by rw [cell_of_row _ _ _ _ _ _ hg]; rfl
        have HG := hid hg
        clear hg
        have hd : decide ((k : Int) < N) = true := by simp; omega
        have hbel : Below wr.heap.size wr (wr.alloc (.cells #[.int .u8 ((y : Int) % 256)] 5)) := (Below.refl _ _).alloc (Nat.le_refl _) _
        go_wp2_with (at_builtin; refine wpList_app rfl (.tmp 37) (.tmp 40) _ rfl elB rfl (ho.alloc _) (some ⟨wr.heap.size, 0, none⟩) 1 1 rfl [byteV x] (Sees.of_alloc _ _ _ (by rw [HXV.out])) (by simp) (by simp [byteV, Value.oneCell']) m'.length HML.out (m'.map byteV) HMM.out.symm (by have := HML.out; unfold maxLen; omega) (by have := HML.out; omega) (Nat.zero_le _) ?_; intro A' c' w' hown hgr hat hb0; obtain ⟨⟨hp1, hp2⟩, R', hmk', hbut', hR'⟩ := mk_grow HG.out ho hr ha hz hbel hown hgr hat)
        exact ⟨⟨k + 1, by omega, by go_num, by rw [HDI.out]; rfl, R', HLA.out ▸ hmk', hbk.trans hbut' hRk, fun b hb => by
          rcases hR' b hb with h | h
          · exact hRk b h
          · exact .inr (Nat.le_trans hbk.size h)⟩, by simp [intOf]; omega⟩
      · obtain rfl : k = N := by omega
        clear hdiv hsn hg hdv
        go_wp2_with fail
        go_end0
        exact ⟨rfl, Rk, hMK, hbk, hRk⟩
end Go.Proofs.Ytbcddeiicneajaa
