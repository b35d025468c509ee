/- The walk of TagsCheck. -/
import Derived.Test.YtlcbfikmljmlpaaDoorLaw26Known
import Derived.Test.YtlcbfikmljmlpaaDoorTagsCheck
import Derived.Test.YtlcbfikmljmlpaaDoorTagsSame
import Derived.Test.YtlcbfikmljmlpaaDoorTagsFew
namespace Go.Proofs.YtlcbfikmljmlpaaDoor
set_option linter.unusedVariables false
open Go.RowKit
theorem brief_of {l : List TagV} (h : ∀ x ∈ l, x.k.size ≤ 100 ∧ x.v.size ≤ 1500) : Brief l := fun x hx => by have := h x hx; omega
namespace tagsCheck
set_option maxRecDepth 20000 in
set_option maxHeartbeats 4000000 in
theorem walk (A : Option Addr) (c : Nat) (l : List TagV) (B : Option Addr) (d : Nat) (m : List TagV) (w : World) (h : SeesT w A l ∧ l.length ≤ c ∧ c ≤ maxLen) (h' : SeesT w B m ∧ m.length ≤ d ∧ d ≤ maxLen) (hT : Tabs w) :
    Calls Tryd.prog 3 #[.slice A l.length c, .slice B m.length d] w fun e w' => e = .returned (.bool true) ∧ Below w.heap.size w w' := by
  obtain ⟨hl, hlc, hc⟩ := h
  obtain ⟨hm, hmc, hd⟩ := h'
  have hK := hid known_any
  go_enter Tryd.func3, Tryd.ntmps3
  go_wp2_with fail
  refine (fewT_any A c l w hl ⟨hlc, hc⟩).mono ?_
  rintro e w1 ⟨b, rfl, rfl, hfl⟩
  cases b with
  | false =>
    clear hfl hl hm
    go_wp2_with fail
    refine (hK.out _).mono ?_
    rintro e w1 ⟨rfl, hb⟩
    go_wp2_with fail
    go_ret
    exact ⟨rfl, hb⟩
  | true =>
    obtain ⟨n1, s1⟩ := hfl rfl
    clear hfl
    go_wp2_with fail
    refine (fewT_any B d m w hm ⟨hmc, hd⟩).mono ?_
    rintro e w1 ⟨b, rfl, rfl, hfm⟩
    cases b with
    | false =>
      clear hfm hl hm
      go_wp2_with fail
      refine (hK.out _).mono ?_
      rintro e w1 ⟨rfl, hb⟩
      go_wp2_with fail
      go_ret
      exact ⟨rfl, hb⟩
    | true =>
      clear hfm
      have hlm : l.length ≤ maxLen := Nat.le_trans hlc hc
      have hmm : m.length ≤ maxLen := Nat.le_trans hmc hd
      have hBr := brief_of s1
      clear s1
      go_wp2_with fail
      refine (check_any A c l w hl hlc hlm hBr hT).mono ?_
      rintro e w1 ⟨rfl, hb1⟩
      have hr := rcheck_any A c l w1 (hl.below hb1) hlc hlm hBr
      generalize checkT l = z at *
      obtain ⟨z, y⟩ := z
      simp only at hr
      go_wp2_with fail
      refine hr.mono ?_
      rintro e w2 ⟨rfl, hb2⟩
      clear hr
      replace hb2 := hb1.trans (hb2.mono hb1.size)
      clear hb1
      have p1 := psameT_any A B c d l m w2 (hl.below hb2) (hm.below hb2) hlm hmm
      have p2 := hid (fun W => rsameT_any A B c d l m W)
      have p3 := hid (fun W => psameT_any A A c c l l W)
      rw [sameT_refl] at p3
      generalize sameT l m = q at *
      go_wp2_with fail
      refine p1.mono ?_
      rintro e w3 ⟨rfl, hb3⟩
      clear p1
      replace hb3 := hb2.trans (hb3.mono hb2.size)
      go_wp2_with fail
      refine (p2.out w3 (hl.below hb3) (hm.below hb3) hlm hmm).mono ?_
      rintro e w4 ⟨rfl, hb4⟩
      replace hb4 := hb3.trans (hb4.mono hb3.size)
      go_wp2_with fail
      refine (p3.out w4 (hl.below hb4) (hl.below hb4) hlm hlm).mono ?_
      rintro e w5 ⟨rfl, hb5⟩
      replace hb5 := hb4.trans (hb5.mono hb4.size)
      clear p2 p3 hl hm
      go_wp2_with fail
      refine (hK.out _).mono ?_
      rintro e w6 ⟨rfl, hb6⟩
      go_wp2_with fail
      go_ret
      exact ⟨rfl, hb5.trans (hb6.mono hb5.size)⟩
end tagsCheck
end Go.Proofs.YtlcbfikmljmlpaaDoor
