/- Arguments opened: what a value that was read as data is. -/
import Derived.Test.YtlcbfikmljmlpaaDoorKit
import Derived.ProofKit
import Derived.OpenShut
import Derived.ShutString
import Derived.ChangeOld
import Derived.Below
namespace Go.Proofs.YtlcbfikmljmlpaaDoor
set_option linter.unusedVariables false
open Go.ChangeShapes Go.WideShapes Go.ChangeAt Go.RowKit
section
variable {H : Type} {enc : TypeId × Value → H} {P : Program} {w : World} {base b0 : Nat} {spare : Nat → Bool} {held : Bool} {r : Reach}
theorem wf_u8 {z : Int} (h : (Lit.int .u8 z).wf = true) : 0 ≤ z ∧ z < 256 := by
  simp [Lit.wf, IntKind.min, IntKind.max, IntKind.signed, IntKind.bits] at h; omega
theorem wf_u32 {z : Int} (h : (Lit.int .u32 z).wf = true) : 0 ≤ z ∧ z < 4294967296 := by
  simp [Lit.wf, IntKind.min, IntKind.max, IntKind.signed, IntKind.bits] at h; omega
theorem wf_u64 {z : Int} (h : (Lit.int .u64 z).wf = true) : 0 ≤ z ∧ z < 18446744073709551616 := by
  simp [Lit.wf, IntKind.min, IntKind.max, IntKind.signed, IntKind.bits] at h; omega
theorem wf_i64 {z : Int} (h : (Lit.int .i64 z).wf = true) : -9223372036854775808 ≤ z ∧ z < 9223372036854775808 := by
  simp [Lit.wf, IntKind.min, IntKind.max, IntKind.signed, IntKind.bits] at h; omega
theorem ints_raw {t e : TypeId} {k : IntKind} {v : Value} {y : DataW H × List MemPlace} {n : Nat} (ht : P.underlying t = some (.slice e)) (he : P.underlying e = some (.int k)) (hc : P.cellsOf e = 1)
    (h : DataW.trod enc P w base spare held n t [v] = some y) :
    ∃ (A : Option Addr) (c : Nat) (zs : List Int), v = .slice A zs.length c ∧ Sees w A (zs.map fun z => .int k z) ∧ zs.length ≤ c ∧ c ≤ maxLen ∧ (∀ z ∈ zs, (Lit.int k z).wf = true) := by
  rcases open_ints ht he hc h with ⟨hcs, _⟩ | ⟨x, l, c', zs, hcs, _, hl, hm, hz, _, hcell, hwz⟩
  · injection hcs with hcs _
    subst hcs
    exact ⟨none, 0, [], rfl, Sees.nil _ _, by simp, by simp, by simp⟩
  · injection hcs with hcs _
    subst hcs
    have hln : l ≤ zs.length := by rw [hz]; split <;> omega
    have hlen : (zs.take l).length = l := by simp; omega
    refine ⟨some x, c', zs.take l, by rw [hlen], ?_, by rw [hlen]; exact hl, hm, fun z hz' => hwz z (List.mem_of_mem_take hz')⟩
    intro i v hv
    refine ⟨x, rfl, ?_⟩
    rw [List.getElem?_map] at hv
    have hin : i < l := by
      rcases Nat.lt_or_ge i l with h1 | h1
      · exact h1
      · rw [List.getElem?_eq_none (by simp; omega)] at hv; cases hv
    rw [List.getElem?_take_of_lt hin] at hv
    rw [hcell i (by omega)]
    rw [List.getElem?_eq_getElem (by omega : i < zs.length)] at hv
    rw [← hv]; simp [List.getD, List.getElem?_eq_getElem (by omega : i < zs.length)]
theorem int_raw {t : TypeId} {k : IntKind} {v : Value} {y : DataW H × List MemPlace} {n : Nat} (ht : P.underlying t = some (.int k)) (h : DataW.trod enc P w base spare held n t [v] = some y) :
    ∃ z, v = .int k z ∧ (Lit.int k z).wf = true := by
  obtain ⟨z, h1, _, hw⟩ := DataW.trod_int ht h
  injection h1 with h1 _
  exact ⟨z, h1, hw⟩
theorem open_ints_of {t e : TypeId} {k : IntKind} {v : Value} {d : DataW H} {p : List MemPlace} (ht : P.underlying t = some (.slice e)) (he : P.underlying e = some (.int k)) (hc : P.cellsOf e = 1)
    (hv : Value.okWide P w r b0 t v) (h : DataW.Trod enc P w base spare held t v d p) :
    ∃ (A : Option Addr) (c : Nat) (zs : List Int), v = .slice A zs.length c ∧ Sees w A (zs.map fun z => .int k z) ∧ zs.length ≤ c ∧ c ≤ maxLen ∧ (∀ z ∈ zs, (Lit.int k z).wf = true) := by
  obtain ⟨A, n, c, rfl⟩ := okWide_slice ht hv
  obtain ⟨fuel, hf⟩ := h
  rcases open_ints ht he hc hf with ⟨hcs, _⟩ | ⟨x, l, c', zs, hcs, _, hl, hm, hz, _, hcell, hwz⟩
  · simp [Value.cells] at hcs
    obtain ⟨rfl, rfl, rfl⟩ := hcs
    exact ⟨none, 0, [], rfl, Sees.nil _ _, by simp, by simp, by simp⟩
  · simp [Value.cells] at hcs
    obtain ⟨rfl, rfl, rfl⟩ := hcs
    have hln : n ≤ zs.length := by rw [hz]; split <;> omega
    have hlen : (zs.take n).length = n := by simp; omega
    refine ⟨some x, c, zs.take n, by rw [hlen], ?_, by rw [hlen]; exact hl, hm, fun z hz' => hwz z (List.mem_of_mem_take hz')⟩
    intro i v hv
    refine ⟨x, rfl, ?_⟩
    rw [List.getElem?_map] at hv
    have hin : i < n := by
      rcases Nat.lt_or_ge i n with h1 | h1
      · exact h1
      · rw [List.getElem?_eq_none (by simp; omega)] at hv; cases hv
    rw [List.getElem?_take_of_lt hin] at hv
    rw [hcell i (by omega)]
    rw [List.getElem?_eq_getElem (by omega : i < zs.length)] at hv
    rw [← hv]; simp [List.getD, List.getElem?_eq_getElem (by omega : i < zs.length)]
theorem open_bytes {t e : TypeId} {v : Value} {d : DataW H} {p : List MemPlace} (ht : P.underlying t = some (.slice e)) (he : P.underlying e = some (.int .u8)) (hc : P.cellsOf e = 1)
    (hv : Value.okWide P w r b0 t v) (h : DataW.Trod enc P w base spare held t v d p) :
    ∃ (A : Option Addr) (c : Nat) (l : List UInt8), v = .slice A l.length c ∧ SeesB w A l ∧ l.length ≤ c ∧ c ≤ maxLen := by
  obtain ⟨A, c, zs, rfl, hs, h1, h2, hw⟩ := open_ints_of ht he hc hv h
  refine ⟨A, c, zs.map fun z => UInt8.ofNat z.toNat, by simp, ?_, by simpa using h1, h2⟩
  have e : (zs.map fun z => UInt8.ofNat z.toNat).map byteV = zs.map fun z => Value.int .u8 z := by
    rw [List.map_map]
    apply List.map_congr_left
    intro z hz
    have := wf_u8 (hw z hz)
    simp [byteV]; omega
  unfold SeesB; rw [e]; exact hs
end
end Go.Proofs.YtlcbfikmljmlpaaDoor
