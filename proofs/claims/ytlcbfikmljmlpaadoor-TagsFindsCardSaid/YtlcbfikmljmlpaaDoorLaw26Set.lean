/- The walk of TagsSet. -/
import Derived.Test.YtlcbfikmljmlpaaDoorLaw26Check
import Derived.Test.YtlcbfikmljmlpaaDoorTagsSet2
namespace Go.Proofs.YtlcbfikmljmlpaaDoor
set_option linter.unusedVariables false
open Go.RowKit
theorem toList_self (a : ByteArray) : (a.toList == a.toList) = true := beq_self_eq_true _
namespace tagsSet
set_option maxRecDepth 20000 in
set_option maxHeartbeats 8000000 in
theorem walk (A : Option Addr) (c : Nat) (l : List TagV) (tk tv key : ByteArray) (w : World) (h : SeesT w A l ∧ l.length ≤ c ∧ c ≤ maxLen) (hT : Tabs w) :
    Calls Tryd.prog 4 #[.slice A l.length c, .agg #[.string tk, .string tv], .string key] w fun e w' => e = .returned (.bool true) ∧ Below w.heap.size w w' := by
  obtain ⟨hl, hlc, hc⟩ := h
  have hK := hid known_any
  have hb0 : Below w.heap.size w (w.alloc (.cells #[.string tk, .string tv] 30)) := (Below.refl _ _).alloc (Nat.le_refl _) _
  have hrow := heap_alloc_new w (.cells #[.string tk, .string tv] 30)
  have c0 : (w.alloc (.cells #[.string tk, .string tv] 30)).cell? ⟨w.heap.size, 0, none⟩ = some (.string tk) := by rw [cell_of_row _ _ _ _ _ _ hrow]; rfl
  have c1 : (w.alloc (.cells #[.string tk, .string tv] 30)).cell? ⟨w.heap.size, 1, none⟩ = some (.string tv) := by rw [cell_of_row _ _ _ _ _ _ hrow]; rfl
  have hl0 := hl.below hb0
  have hT0 := hT.below hb0
  have hfew := fewT_any A c l _ hl0 ⟨hlc, hc⟩
  clear hrow hl hT
  go_enter Tryd.func4, Tryd.ntmps4
  go_wp2_with fail
  generalize w.alloc (.cells #[.string tk, .string tv] 30) = w0 at *
  refine hfew.mono ?_
  rintro e w1 ⟨b, rfl, rfl, hfl⟩
  clear hfew
  have hkn : ∀ {Q : Ending → World → Prop}, (∀ w', Below w.heap.size w w' → Q (.returned (.bool true)) w') → Calls Tryd.prog 10 #[] w0 Q := fun hq => (hK.out w0).mono (by rintro e w2 ⟨rfl, hb2⟩; exact hq _ (hb0.trans (hb2.mono hb0.size)))
  cases b with
  | false =>
    clear hfl
    go_wp2_with fail
    refine hkn fun w2 hb2 => ?_
    go_wp2_with fail
    go_ret
    exact ⟨rfl, hb2⟩
  | true =>
    obtain ⟨n1, s1⟩ := hfl rfl
    clear hfl
    by_cases q1 : 100 < tk.size
    · have d1 : decide (100 < (tk.size : Int)) = true := decide_eq_true (by omega)
      go_wp2_with fail
      refine hkn fun w2 hb2 => ?_
      go_wp2_with fail
      go_ret
      exact ⟨rfl, hb2⟩
    have d1 : decide (100 < (tk.size : Int)) = false := decide_eq_false (by omega)
    by_cases q2 : 1500 < tv.size
    · have d2 : decide (1500 < (tv.size : Int)) = true := decide_eq_true (by omega)
      go_wp2_with fail
      refine hkn fun w2 hb2 => ?_
      go_wp2_with fail
      go_ret
      exact ⟨rfl, hb2⟩
    have d2 : decide (1500 < (tv.size : Int)) = false := decide_eq_false (by omega)
    by_cases q3 : 100 < key.size
    · have d3 : decide (100 < (key.size : Int)) = true := decide_eq_true (by omega)
      go_wp2_with fail
      refine hkn fun w2 hb2 => ?_
      go_wp2_with fail
      go_ret
      exact ⟨rfl, hb2⟩
    have d3 : decide (100 < (key.size : Int)) = false := decide_eq_false (by omega)
    have hBr := brief_of s1
    have hlen : l.length ≤ 1000000 := by omega
    have hml : l.length ≤ maxLen := Nat.le_trans hlc hc
    have hset := set_any A c l ⟨tk, tv⟩ w0 hl0 hlen hBr (by show tk.size ≤ _; omega) (by show tv.size ≤ _; omega) hT0
    have hrset := hid (fun W (hl : SeesT W A l) => rset_any A c l ⟨tk, tv⟩ W hl hlen hBr (by show tk.size ≤ _; omega) (by show tv.size ≤ _; omega))
    have hdrop := hid (fun W (hl : SeesT W A l) => drop_any A c l key W hl hlen hBr (by omega))
    have hrdrop := hid (fun W (hl : SeesT W A l) => rdrop_any A c l key W hl hlen hBr (by omega))
    have hfind := hid (fun W (hl : SeesT W A l) => find_any A c l key W hl hlen hBr (by omega))
    have hat := hid (fun W (hl : SeesT W A l) => rat_any A c l key W hl (by omega) (fun x hx => (hBr x hx).1) (by omega))
    have hRl : (setR l ⟨tk, tv⟩).length ≤ l.length + 1 := by
      unfold setR
      split
      · exact setT_len l _
      · simp
    have hKl : (keepT (foldS key) l).length ≤ l.length := List.length_filter_le _ _
    unfold SetPost at hset hrset
    obtain ⟨z, hz⟩ : ∃ z, idxFrom (alike (foldS key)) l 0 = z := ⟨_, rfl⟩
    rw [hz] at hat
    have hno := hid (fun h : z = -1 => idx_none (alike (foldS key)) l 0 (hz.trans h))
    have hsome := hid (idx_some (alike (foldS key)) l 0 z hz)
    unfold foundT at hfind
    generalize l.find? (alike (foldS key)) = F at *
    generalize setR l ⟨tk, tv⟩ = r at *
    generalize (checkT (setT l ⟨tk, tv⟩)).2 = y at *
    generalize keepT (foldS key) l = kp at *
    clear hz s1 hBr hkn
    go_wp2_with fail
    refine hset.mono ?_
    rintro e w1 ⟨A1, c1', rfl, h1, h1c, hb1⟩
    clear hset
    replace c0 := keep1 hb1 c0
    replace c1 := keep1 hb1 c1
    have hl1 := hl0.below hb1
    replace hb1 := hb0.trans (hb1.mono hb0.size)
    go_wp2_with fail
    refine (hrset.out w1 hl1).mono ?_
    rintro e w2 ⟨A2, c2', rfl, h2, h2c, hb2⟩
    clear hrset c0 c1
    have hl2 := hl1.below hb2
    replace h1 := h1.below hb2
    replace hb2 := hb1.trans (hb2.mono hb1.size)
    have hs1 := hid (fun W (h1 : SeesT W A1 r) (h2 : SeesT W A2 r) => rsameT_any A1 A2 c1' c2' r r W h1 h2 (by unfold maxLen; omega) (by unfold maxLen; omega))
    rw [sameT_refl] at hs1
    go_wp2_with fail
    refine (hs1.out w2 h1 h2).mono ?_
    rintro e w3 ⟨rfl, hb3⟩
    clear hs1
    have hl3 := hl2.below hb3
    replace hb3 := hb2.trans (hb3.mono hb2.size)
    go_wp2_with fail
    refine (hdrop.out w3 hl3).mono ?_
    rintro e w4 ⟨A4, c4, rfl, h4, h4c, hb4⟩
    clear hdrop
    have hl4 := hl3.below hb4
    replace hb4 := hb3.trans (hb4.mono hb3.size)
    go_wp2_with fail
    refine (hrdrop.out w4 hl4).mono ?_
    rintro e w5 ⟨A5, c5, rfl, h5, h5c, hb5⟩
    clear hrdrop
    have hl5 := hl4.below hb5
    replace h4 := h4.below hb5
    replace hb5 := hb4.trans (hb5.mono hb4.size)
    have hs2 := hid (fun W (h1 : SeesT W A4 kp) (h2 : SeesT W A5 kp) => rsameT_any A4 A5 c4 c5 kp kp W h1 h2 (by unfold maxLen; omega) (by unfold maxLen; omega))
    rw [sameT_refl] at hs2
    go_wp2_with fail
    refine (hs2.out w5 h4 h5).mono ?_
    rintro e w6 ⟨rfl, hb6⟩
    clear hs2
    have hl6 := hl5.below hb6
    replace hb6 := hb5.trans (hb6.mono hb5.size)
    clear h1 h2 h4 h5 hl0 hl1 hl2 hl3 hl4 hl5
    go_wp2_with fail
    refine (hfind.out w6 hl6).mono ?_
    rintro e w7 ⟨rfl, hb7⟩
    clear hfind
    have hl7 := hl6.below hb7
    replace hb7 := hb6.trans (hb7.mono hb6.size)
    go_wp2_with fail
    refine (hat.out w7 hl7).mono ?_
    rintro e w8 ⟨rfl, hb8⟩
    clear hat
    have hl8 := hl7.below hb8
    replace hb8 := hb7.trans (hb8.mono hb7.size)
    clear hl6 hl7
    by_cases hz1 : z = -1
    · subst hz1
      obtain rfl : F = none := hno.out rfl
      have e1 : valT none = ⟨#[]⟩ := rfl
      have e2 := toList_self ⟨#[]⟩
      rw [e1]
      clear hno hsome
      go_wp2_with fail
      refine (hK.out _).mono ?_
      rintro e w9 ⟨rfl, hb9⟩
      go_wp2_with fail
      go_ret
      exact ⟨rfl, hb8.trans (hb9.mono hb8.size)⟩
    · obtain ⟨i, hi, rfl, hf⟩ := hsome.out hz1
      rw [Nat.zero_add] at hz1 ⊢
      have g1 : decide ((i : Int) < 0) = false := decide_eq_false (by omega)
      have g2 : decide (0 ≤ (i : Int)) = true := decide_eq_true (by omega)
      have dki : (i : Int) < (l.length : Int) := by omega
      obtain ⟨a, rfl, x1, x2⟩ := hl8.at hi
      obtain ⟨x, hx⟩ : ∃ x, x = l[i] := ⟨_, rfl⟩
      rw [← hx] at hf x1 x2
      subst hf
      have e1 : valT (some x) = x.v := rfl
      rw [e1]
      have e2 := toList_self x.v
      clear hno hsome hz1 hx e1
      go_wp2_with fail
      refine (hK.out _).mono ?_
      rintro e w9 ⟨rfl, hb9⟩
      go_wp2_with fail
      go_ret
      exact ⟨rfl, hb8.trans (hb9.mono hb8.size)⟩
end tagsSet
end Go.Proofs.YtlcbfikmljmlpaaDoor
