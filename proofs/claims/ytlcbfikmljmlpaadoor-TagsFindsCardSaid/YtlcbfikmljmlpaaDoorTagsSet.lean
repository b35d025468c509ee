/- Tags that are dropped, found and set: the program's and the reference's. -/
import Derived.Test.YtlcbfikmljmlpaaDoorTagsDel2
namespace Go.Proofs.YtlcbfikmljmlpaaDoor
set_option linter.unusedVariables false
open Go.RowKit
/-- a slice of tags is given -/
def GiveT (w : World) (r : List TagV) (e : Ending) (w' : World) : Prop := ∃ A c, e = .returned (.slice A r.length c) ∧ SeesT w' A r ∧ r.length ≤ c ∧ Below w.heap.size w w'
theorem NewT.cap {B : Nat} {w : World} {l : List TagV} {A : Option Addr} {c : Nat} (h : NewT B w l A c) : l.length ≤ c := by
  rcases h.2 with ⟨h', h0⟩ | ⟨g', cap', cur, h', hb, hg, hnc, _⟩
  · rw [h0]; exact Nat.zero_le _
  · injection h' with _ _ h3
    omega
theorem NewT.nothing {B : Nat} {w : World} {l : List TagV} {c : Nat} (h : NewT B w l none c) : l = [] ∧ c = 0 := by
  rcases h.2 with ⟨h', h0⟩ | ⟨g', cap', cur, h', hb, hg, hnc, _⟩
  · injection h' with _ _ h3
    exact ⟨List.eq_nil_of_length_eq_zero h0, h3⟩
  · injection h' with h1
    cases h1
theorem NewT.some_ {B : Nat} {w : World} {l : List TagV} {a : Addr} {c : Nat} (h : NewT B w l (some a) c) : ∃ g, a = ⟨g, 0, none⟩ := by
  rcases h.2 with ⟨h', h0⟩ | ⟨g', cap', cur, h', hb, hg, hnc, _⟩
  · injection h' with h1
    cases h1
  · injection h' with h1
    injection h1 with h1
    exact ⟨g', h1⟩
theorem NewT.mono {B B' : Nat} {w : World} {l : List TagV} {A : Option Addr} {c : Nat} (h : NewT B w l A c) (hb : B' ≤ B) : NewT B' w l A c := by
  refine ⟨h.1, ?_⟩
  rcases h.2 with h' | ⟨g', cap', cur, h1, h2, h3⟩
  · exact .inl h'
  · exact .inr ⟨g', cap', cur, h1, by omega, h3⟩
theorem nil_sees (w : World) : SeesT w none [] := fun i hi => by simp at hi
set_option maxHeartbeats 1000000 in
theorem del_none (gk : Nat) (K : ByteArray) (w : World) (hgk : w.cell? ⟨gk, 0, none⟩ = some (.string K)) :
    Calls Tryd.prog 39 #[.slice none 0 0, .func (.func 61) #[] #[.pointer (some ⟨gk, 0, none⟩)]] w (GiveT w []) := by
  have hfi := findLike_any gk K none 0 [] w hgk (nil_sees w) (by simp) (by simp)
  go_enter Tryd.func39, Tryd.ntmps39
  go_wp2_with fail
  refine hfi.mono ?_
  rintro e w1 ⟨rfl, hb1⟩
  clear hfi
  have e0 : idxFrom (alike K) [] 0 = -1 := rfl
  rw [e0]
  go_wp2_with fail
  go_ret
  exact ⟨none, 0, rfl, nil_sees _, Nat.le_refl _, hb1⟩
set_option maxHeartbeats 1000000 in
theorem drop_any (A : Option Addr) (c : Nat) (l : List TagV) (key : ByteArray) (w : World) (hl : SeesT w A l) (hlen : l.length ≤ 1000000) (hs : Brief l) (hk : key.size ≤ 140737488355328) :
    Calls Tryd.prog 17 #[.slice A l.length c, .string key] w (GiveT w (keepT (foldS key) l)) := by
  have hc := cloneT_any A c l w hl hlen
  go_enter Tryd.func17, Tryd.ntmps17
  go_wp2_with fail
  refine hc.mono ?_
  rintro e w1 ⟨A1, c1, rfl, hn1, hb1⟩
  clear hc
  go_wp2_with fail
  refine (like_any key w1 hk).mono ?_
  rintro e w2 ⟨rfl, cg, hb2⟩
  have hn2 := hn1.below hb2
  have hB := hb1.size
  replace hb2 := hb1.trans (hb2.mono hB)
  generalize foldS key = K at *
  cases A1 with
  | none =>
    obtain ⟨rfl, rfl⟩ := hn1.nothing
    go_wp2_with fail
    refine (del_none _ K w2 cg).mono ?_
    rintro e w3 ⟨A3, c3, rfl, h3, h4, hb3⟩
    go_wp2_with fail
    go_ret
    exact ⟨A3, c3, rfl, h3, h4, hb2.trans (hb3.mono hb2.size)⟩
  | some a =>
    obtain ⟨g, rfl⟩ := hn1.some_
    have hgw := hn1.bounds
    have hd := del_any w.heap.size w1.heap.size K g c1 l w2 hn2 hb2.size cg (by omega) hlen hs
    generalize w1.heap.size = gk at *
    go_wp2_with fail
    refine hd.mono ?_
    rintro e w3 ⟨A3, c3, rfl, h3, h4, hb3⟩
    go_wp2_with fail
    go_ret
    exact ⟨A3, c3, rfl, h3, h4, hb2.trans hb3⟩
/-- the first tag that is alike to a key -/
theorem idx_none (p : TagV → Bool) : ∀ (l : List TagV) (s : Nat), idxFrom p l (s : Int) = -1 → l.find? p = none
  | [], _, _ => rfl
  | x :: l, s, h => by
    unfold idxFrom at h
    cases hp : p x with
    | true => rw [hp, if_pos rfl] at h; omega
    | false =>
      rw [hp, if_neg (by simp)] at h
      rw [List.find?_cons, hp]
      exact idx_none p l (s + 1) h
theorem idx_some (p : TagV → Bool) : ∀ (l : List TagV) (s : Nat) (z : Int), idxFrom p l (s : Int) = z → z ≠ -1 → ∃ i, ∃ h : i < l.length, z = ((s + i : Nat) : Int) ∧ l.find? p = some l[i]
  | [], s, z, h, hz => absurd h.symm hz
  | x :: l, s, z, h, hz => by
    unfold idxFrom at h
    cases hp : p x with
    | true =>
      rw [hp, if_pos rfl] at h
      exact ⟨0, by simp, h.symm, by rw [List.find?_cons, hp]; rfl⟩
    | false =>
      rw [hp, if_neg (by simp)] at h
      obtain ⟨i, hi, e, hf⟩ := idx_some p l (s + 1) z h hz
      exact ⟨i + 1, by simpa using hi, by omega, by rw [List.find?_cons, hp]; exact hf⟩
/-- the value of a key -/
def foundT (K : ByteArray) (l : List TagV) : Option TagV := l.find? (alike K)
def valT : Option TagV → ByteArray
  | some t => t.v
  | none => ⟨#[]⟩
set_option maxHeartbeats 1000000 in
theorem find_any (A : Option Addr) (c : Nat) (l : List TagV) (key : ByteArray) (w : World) (hl : SeesT w A l) (hlen : l.length ≤ 1000000) (hs : Brief l) (hk : key.size ≤ 140737488355328) :
    Calls Tryd.prog 19 #[.slice A l.length c, .string key] w fun e w' => e = .returned (.tuple #[.string (valT (foundT (foldS key) l)), .bool (foundT (foldS key) l).isSome]) ∧ Below w.heap.size w w' := by
  obtain ⟨R, hR⟩ : ∃ R, R = foundT (foldS key) l := ⟨_, rfl⟩
  rw [← hR]
  unfold foundT at hR
  go_enter Tryd.func19, Tryd.ntmps19
  go_wp2_with fail
  refine (like_any key w hk).mono ?_
  rintro e w1 ⟨rfl, cg, hb1⟩
  generalize foldS key = K at *
  have hfi := findLike_any w.heap.size K A c l w1 cg (hl.below hb1) (by omega) (fun x hx => (hs x hx).1)
  obtain ⟨z, hz⟩ : ∃ z, idxFrom (alike K) l 0 = z := ⟨_, rfl⟩
  rw [hz] at hfi
  go_wp2_with fail
  refine hfi.mono ?_
  rintro e w2 ⟨rfl, hb2⟩
  replace hb2 := hb1.trans (hb2.mono hb1.size)
  clear hfi
  by_cases h1 : z = -1
  · subst h1
    obtain rfl : R = none := by rw [hR]; exact idx_none _ l 0 hz
    clear hz
    go_wp2_with fail
    go_ret2
    exact ⟨rfl, hb2⟩
  · obtain ⟨i, hi, rfl, hf⟩ := idx_some (alike K) l 0 z hz h1
    rw [Nat.zero_add] at h1 ⊢
    have d1 : decide ((i : Int) < 0) = false := decide_eq_false (by omega)
    have dki : (i : Int) < (l.length : Int) := by omega
    obtain ⟨a, rfl, x1, x2⟩ := (hl.below hb2).at hi
    obtain ⟨x, hx⟩ : ∃ x, x = l[i] := ⟨_, rfl⟩
    rw [← hx] at hf x1 x2
    obtain rfl : R = some x := by rw [hR]; exact hf
    clear hz hf h1 hx
    go_wp2_with fail
    go_ret2
    exact ⟨rfl, hb2⟩
set_option maxHeartbeats 4000000 in
theorem rdrop_any (A : Option Addr) (c : Nat) (l : List TagV) (key : ByteArray) (w : World) (hl : SeesT w A l) (hlen : l.length ≤ 1000000) (hs : Brief l) (hk : key.size ≤ 140737488355328) :
    Calls Tryd.prog 18 #[.slice A l.length c, .string key] w (GiveT w (keepT (foldS key) l)) := by
  have HF := hid (fun W => rfold_any key W hk)
  have HG := hid (fun W x (hx : x ∈ l) => rfold_any x.k W (hs x hx).1)
  generalize foldS key = K at *
  go_enter Tryd.func18, Tryd.ntmps18
  go_wp2_with fail
  go_loopw [5, 6] (fun o i wr => ∃ (k n : Nat) (A' : Option Addr) (c' : Nat) (r : List TagV), k ≤ l.length ∧ i = .int .i64 (k : Int) ∧ o = .slice A' n c' ∧ n ≤ k ∧ wr.ownsRow w.heap.size 30 2 (.slice A' n c') n (flat r) ∧ Below w.heap.size w wr ∧ Hid (r = keepT K (l.take k) ∧ r.length = n)) (fun _ i _ => l.length - (intOf i).toNat)
  case atStart => exact ⟨0, 0, none, 0, [], by omega, rfl, rfl, by omega, own_nil _ _ _ _, Below.refl _ _, hid ⟨rfl, rfl⟩⟩
  case round =>
    obtain ⟨k, n, A', c', r, hk', rfl, rfl, hnk, hn, hb, hE⟩ := hrel
    by_cases hlt : k < l.length
    · have dk : decide ((k : Int) < (l.length : Int)) = true := decide_eq_true (by omega)
      have ck : (k : Int) < (l.length : Int) := by omega
      obtain ⟨a, rfl, x1, x2⟩ := (hl.below hb).at hlt
      have HS := hid (keepT_succ K l k hlt)
      have hcall := HG.out wr l[k] (List.getElem_mem hlt)
      have hal : alike K l[k] = decide (foldS l[k].k = K) := rfl
      rw [hal] at HS
      generalize foldS l[k].k = F at *
      generalize l[k] = x at *
      clear hal
      obtain ⟨xk, xv⟩ := x
      simp only at x1 x2
      go_wp2_with fail
      refine hcall.mono ?_
      rintro e w1 ⟨rfl, hb1⟩
      clear hcall
      go_wp2_with fail
      refine (HF.out w1).mono ?_
      rintro e w2 ⟨rfl, hb2⟩
      have hb12 := hb1.trans (hb2.mono hb1.size)
      have x12 := keep1 hb12 x1
      have x22 := keep1 hb12 x2
      have hn2 : w2.ownsRow w.heap.size 30 2 (.slice A' n c') n (flat r) := World.ownsRow.kept hn (row := none) ⟨hb12.os, hb12.tape, hb12.output, hb12.size, fun k hk _ => hb12.block k hk⟩ (by cases (Value.slice A' n c').ownBlock <;> simp)
      replace hb12 := hb.trans (hb12.mono hb.size)
      clear hb1 hb2 x1 x2 hn hb
      have dl := list_eql F K
      cases hq : (F.toList == K.toList) with
      | true =>
        rw [hq] at dl
        have HK2 := hid (show r = keepT K (l.take (k + 1)) by rw [HS.out, if_pos dl.symm]; exact hE.out.1)
        clear HS dl
        go_wp2_with fail
        exact ⟨⟨k + 1, n, A', c', r, by omega, by go_num, rfl, by omega, hn2, hb12, hid ⟨HK2.out, hE.out.2⟩⟩, by simp [intOf]; omega⟩
      | false =>
        rw [hq] at dl
        have HK2 := hid (show r ++ [⟨xk, xv⟩] = keepT K (l.take (k + 1)) by rw [HS.out, ← dl, hE.out.1]; rfl)
        clear HS dl
        have hba := (Below.refl w2.heap.size w2).alloc (Nat.le_refl _) (.cells #[.string xk, .string xv] 30)
        have hbb := hb12.alloc hb12.size (.cells #[.string xk, .string xv] 30)
        have HYS := hid (show flat r ++ flat [⟨xk, xv⟩] = flat (r ++ [⟨xk, xv⟩]) from (flat_app _ _).symm)
        go_wp2_with (at_builtin; refine wpList_app rfl (.tmp 22) (.tmp 27) _ rfl elT rfl (hn2.alloc _) (some ⟨w2.heap.size, 0, none⟩) 1 1 rfl (flat [⟨xk, xv⟩]) (Sees.of_alloc _ _ _ rfl) (by simp [flat]) (flat_one _) (n + 1) rfl _ HYS.out (by unfold maxLen; omega) (by omega) hbb.size ?_; intro A3 c3 w5 hown hgr hat hbel)
        exact ⟨⟨k + 1, n + 1, A3, c3, r ++ [⟨xk, xv⟩], by omega, by go_num, rfl, by omega, hown, hbb.trans hbel, hid ⟨HK2.out, by rw [List.length_append, hE.out.2]; rfl⟩⟩, by simp [intOf]; omega⟩
    · obtain rfl : k = l.length := by omega
      have dk : decide ((l.length : Int) < (l.length : Int)) = false := decide_eq_false (by omega)
      go_wp2_with fail
      go_ret
      have e2 := hE.out.1
      rw [List.take_length] at e2
      rw [← e2]
      have e3 := hE.out.2
      subst e3
      exact ⟨A', c', rfl, SeesT.of_flat (own_sees hn), NewT.cap hn, hb⟩
end Go.Proofs.YtlcbfikmljmlpaaDoor
