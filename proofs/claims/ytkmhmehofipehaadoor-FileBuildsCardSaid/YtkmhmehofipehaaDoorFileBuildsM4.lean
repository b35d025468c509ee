/- How the bytes of a block begin; the fields of a head, as bytes say them. -/
import Derived.Test.YtkmhmehofipehaaDoorFileBuildsM3
import Derived.Test.YtkmhmehofipehaaDoorFileBuildsM1
import Derived.Laws.ResultCell
namespace Go.Proofs.YtkmhmehofipehaaDoor
set_option linter.unusedVariables false
open Go.RowKit
/-- the number that stands at a place of bytes -/
def fldH (l : List UInt8) (p n : Nat) : Nat := valLE ((l.drop p).take n)
theorem fldH_lt (l : List UInt8) (p n : Nat) : fldH l p n < 256 ^ n := by
  have h1 := valLE_lt ((l.drop p).take n)
  have h2 : ((l.drop p).take n).length ≤ n := by simp; omega
  exact Nat.lt_of_lt_of_le h1 (Nat.pow_le_pow_right (by omega) h2)
theorem takeU_at (p n : Nat) (T : List UInt8) (h : p + n ≤ T.length) (hn : 1 ≤ n ∧ n ≤ 8) : takeU (0, p) T (n : Int) = ((0, p + n), (T.drop p).take n) := by
  unfold takeU tnext
  rw [if_neg (by simp), if_neg (by omega), Int.toNat_natCast, if_neg (by omega)]
def startsH (l : List UInt8) : Bool := (l[0]?.getD 222 == 222) && (l[1]?.getD 92 == 92)
theorem byte_eq (x : UInt8) (n : Nat) (hn : n < 256) : ((x.toNat : Int) != (n : Int)) = !(x == UInt8.ofNat n) := by
  have h : ((x.toNat : Int) = (n : Int)) ↔ x = UInt8.ofNat n := by
    constructor
    · intro h
      have h2 : x.toNat = n := by omega
      rw [← h2]; simp
    · intro h
      rw [h]; simp; omega
  rw [Bool.eq_iff_iff]
  simp [h]
set_option maxHeartbeats 1000000 in
theorem hstarts_any (A : Option Addr) (c : Nat) (l : List UInt8) (w : World) (hl : SeesB w A l) :
    Calls Tryd.prog 98 #[.slice A l.length c] w fun e w' => e = .returned (.bool (startsH l)) ∧ w = w' := by
  have i0 : ∀ w, (Instr.index 161 (.agg #[.int .u8 222, .int .u8 92]) (.int .i64 0)).run Tryd.prog w = .ok (.int .u8 222) w := fun _ => by kernel_rfl
  have i1 : ∀ w, (Instr.index 161 (.agg #[.int .u8 222, .int .u8 92]) (.int .i64 1)).run Tryd.prog w = .ok (.int .u8 92) w := fun _ => by kernel_rfl
  obtain ⟨S, hS⟩ : ∃ S, S = startsH l := ⟨_, rfl⟩
  rw [← hS]
  have HS := hid hS
  clear hS
  go_enter Tryd.func98, Tryd.ntmps98
  go_wp2_with fail
  go_loop [3, 4, 6] (fun x y i => ∃ n : Nat, n ≤ 2 ∧ i = .int .i64 n ∧ Hid ((0 < n → (l[0]?.getD 222 == 222) = true) ∧ (1 < n → (l[1]?.getD 92 == 92) = true))) (fun _ _ i => 2 - (intOf i).toNat)
  case atStart => exact ⟨0, by omega, rfl, hid ⟨fun h => by omega, fun h => by omega⟩⟩
  case round =>
    obtain ⟨n, hn, rfl, hP⟩ := hrel
    have hcase : n = 0 ∨ n = 1 ∨ n = 2 := by omega
    rcases hcase with hh | hh | hh
    · subst hh
      match l, hl, HS with
      | [], hl, HS =>
        go_wp2_with fail
        go_round
        case rel => exact ⟨1, by omega, by go_num, hid ⟨fun _ => rfl, fun h => by omega⟩⟩
        case measure => simp [intOf]
      | x :: t, hl, HS =>
        obtain ⟨a, rfl, ca⟩ := hl.at (show 0 < (x :: t).length by simp)
        have ca0 : w.cell? a = some (.int .u8 (x.toNat : Int)) := ca
        cases hx : (x == UInt8.ofNat 222) with
        | false =>
          have d2 : ((x.toNat : Int) != 222) = true := by have := byte_eq x 222 (by omega); rw [hx] at this; exact this
          have e : S = false := by rw [HS.out]; unfold startsH; simp at hx ⊢; intro h; exact absurd h hx
          subst e
          go_wp2_with fail
          go_ret
          exact ⟨rfl, rfl⟩
        | true =>
          have d2 : ((x.toNat : Int) != 222) = false := by have := byte_eq x 222 (by omega); rw [hx] at this; exact this
          go_wp2_with fail
          go_round
          case rel => exact ⟨1, by omega, by go_num, hid ⟨fun _ => hx, fun h => by omega⟩⟩
          case measure => simp [intOf]
    · subst hh
      match l, hl, HS, hP with
      | [], hl, HS, hP =>
        go_wp2_with fail
        go_round
        case rel => exact ⟨2, by omega, by go_num, hid ⟨fun _ => rfl, fun h => rfl⟩⟩
        case measure => simp [intOf]
      | [x], hl, HS, hP =>
        go_wp2_with fail
        go_round
        case rel => exact ⟨2, by omega, by go_num, hid ⟨fun _ => hP.out.1 (by omega), fun h => rfl⟩⟩
        case measure => simp [intOf]
      | x :: y :: t, hl, HS, hP =>
        obtain ⟨a, rfl, ca⟩ := hl.at (show 1 < (x :: y :: t).length by simp)
        have ca1 : w.cell? { block := a.block, off := a.off + 1 } = some (.int .u8 (y.toNat : Int)) := ca
        have d1 : decide (1 < (((x :: y :: t).length : Nat) : Int)) = true := by simp; omega
        have d1' : (1 : Int) < (t.length : Int) + 1 + 1 := by omega
        cases hx : (y == UInt8.ofNat 92) with
        | false =>
          have d2 : ((y.toNat : Int) != 92) = true := by have := byte_eq y 92 (by omega); rw [hx] at this; exact this
          have e : S = false := by rw [HS.out]; unfold startsH; simp at hx ⊢; intro _ h; exact absurd h hx
          subst e
          go_wp2_with fail
          go_ret
          exact ⟨rfl, rfl⟩
        | true =>
          have d2 : ((y.toNat : Int) != 92) = false := by have := byte_eq y 92 (by omega); rw [hx] at this; exact this
          go_wp2_with fail
          go_round
          case rel => exact ⟨2, by omega, by go_num, hid ⟨fun _ => hP.out.1 (by omega), fun _ => hx⟩⟩
          case measure => simp [intOf]
    · subst hh
      have e : S = true := by rw [HS.out]; unfold startsH; rw [hP.out.1 (by omega), hP.out.2 (by omega)]; rfl
      subst e
      go_wp2_with fail
      go_ret
      exact ⟨rfl, rfl⟩
end Go.Proofs.YtkmhmehofipehaaDoor
/- Results of which one lies in a variable of its own; small carriers. -/
namespace Go.Proofs.YtkmhmehofipehaaDoor
set_option linter.unusedVariables false
open Go.RowKit
theorem results_row_tmp {P : Program} {fn : Func} {p u : Tmp} {ty : TypeId} (h : fn.results = #[.cell p ty, .tmp u]) (tmps : Array Value) (w : World) (g : Nat) (t : TypeId) (cs : Array Value) (fr : Nat × Nat) (d : TypeDesc)
    (hp : tmps.getD p undef = .pointer (some ⟨g, 0, none⟩)) (hg : w.heap[g]? = some (.cells cs t fr))
    (hu : P.underlying ty = some d) (hd : (match d with | .struct _ | .array _ _ => true | _ => false) = true) (hi : (P.info? ty).map (·.size) = some cs.size) :
    (results fn tmps).run P w = .ok (.tuple #[.agg cs, tmps.getD u undef]) w := by
  have hp' : tmps[p]?.getD undef = .pointer (some ⟨g, 0, none⟩) := by simpa using hp
  simp [results, h, hp', asAddr, run_loadVar_row w g t ty cs fr d hg hu hd hi]
theorem results_row_tmp2 {P : Program} {fn : Func} {p u x : Tmp} {ty : TypeId} (h : fn.results = #[.cell p ty, .tmp u, .tmp x]) (tmps : Array Value) (w : World) (g : Nat) (t : TypeId) (cs : Array Value) (fr : Nat × Nat) (d : TypeDesc)
    (hp : tmps.getD p undef = .pointer (some ⟨g, 0, none⟩)) (hg : w.heap[g]? = some (.cells cs t fr))
    (hu : P.underlying ty = some d) (hd : (match d with | .struct _ | .array _ _ => true | _ => false) = true) (hi : (P.info? ty).map (·.size) = some cs.size) :
    (results fn tmps).run P w = .ok (.tuple #[.agg cs, tmps.getD u undef, tmps.getD x undef]) w := by
  have hp' : tmps[p]?.getD undef = .pointer (some ⟨g, 0, none⟩) := by simpa using hp
  simp [results, h, hp', asAddr, run_loadVar_row w g t ty cs fr d hg hu hd hi]
theorem keep1 {w w' : World} {a : Addr} {v : Value} (hb : Below w.heap.size w w') (h : w.cell? a = some v) : w'.cell? a = some v := (hb.cell (block_lt_of_cell h)).trans h
theorem undrew {w w' : World} (h : Below w.drew.heap.size w.drew w') : Below w.heap.size w w' := ⟨h.os, h.tape, h.output, h.size, h.block⟩
theorem results_row_tmp3 {P : Program} {fn : Func} {p u x y : Tmp} {ty : TypeId} (h : fn.results = #[.cell p ty, .tmp u, .tmp x, .tmp y]) (tmps : Array Value) (w : World) (g : Nat) (t : TypeId) (cs : Array Value) (fr : Nat × Nat) (d : TypeDesc)
    (hp : tmps.getD p undef = .pointer (some ⟨g, 0, none⟩)) (hg : w.heap[g]? = some (.cells cs t fr))
    (hu : P.underlying ty = some d) (hd : (match d with | .struct _ | .array _ _ => true | _ => false) = true) (hi : (P.info? ty).map (·.size) = some cs.size) :
    (results fn tmps).run P w = .ok (.tuple #[.agg cs, tmps.getD u undef, tmps.getD x undef, tmps.getD y undef]) w := by
  have hp' : tmps[p]?.getD undef = .pointer (some ⟨g, 0, none⟩) := by simpa using hp
  simp [results, h, hp', asAddr, run_loadVar_row w g t ty cs fr d hg hu hd hi]
theorem results_row1 {P : Program} {fn : Func} {p : Tmp} {ty : TypeId} (h : fn.results = #[.cell p ty]) (tmps : Array Value) (w : World) (g : Nat) (t : TypeId) (cs : Array Value) (fr : Nat × Nat) (d : TypeDesc)
    (hp : tmps.getD p undef = .pointer (some ⟨g, 0, none⟩)) (hg : w.heap[g]? = some (.cells cs t fr))
    (hu : P.underlying ty = some d) (hd : (match d with | .struct _ | .array _ _ => true | _ => false) = true) (hi : (P.info? ty).map (·.size) = some cs.size) :
    (results fn tmps).run P w = .ok (.agg cs) w := by
  have hp' : tmps[p]?.getD undef = .pointer (some ⟨g, 0, none⟩) := by simpa using hp
  simp [results, h, hp', asAddr, run_loadVar_row w g t ty cs fr d hg hu hd hi]
end Go.Proofs.YtkmhmehofipehaaDoor
