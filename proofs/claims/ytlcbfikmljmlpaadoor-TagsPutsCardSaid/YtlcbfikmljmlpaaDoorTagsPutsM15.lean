/- Tags as bytes: the reference's Put. -/
import Derived.Test.YtlcbfikmljmlpaaDoorTagsPutsM13
import Derived.Test.YtlcbfikmljmlpaaDoorTagsPutsM14
import Derived.Test.YtlcbfikmljmlpaaDoorTagsPutsM12
import Derived.Laws.Bits64b
namespace Go.Proofs.YtlcbfikmljmlpaaDoor
set_option linter.unusedVariables false
open Go.RowKit
theorem refText_ok (b : List UInt8) (n : Nat) (h : 1 ≤ n ∧ n ≤ 8) (hv : b.length < 256 ^ n) : refText b (n : Int) = (0, bytesLE b.length n ++ b) := by
  have hU : refU b.length (n : Int) = (0, bytesLE b.length n) := by
    unfold refU
    rw [if_neg (by omega), if_neg]
    · rfl
    · rintro ⟨_, h3⟩
      rw [Int.toNat_natCast] at h3
      omega
  unfold refText
  rw [hU, if_neg (by simp)]
set_option maxRecDepth 20000 in
set_option maxHeartbeats 4000000 in
theorem rtagput_any (A : Option Addr) (c : Nat) (l : List TagV) (w : World) (hl : SeesT w A l) (hS : Short l) :
    Calls Tryd.prog 26 #[.slice A l.length c] w (ClonePost w (sealed (tagsB l))) := by
  have h64 := hS.1
  have hln : (l.length : Int) % 256 = (l.length : Int) := by omega
  have hb1 : Below w.heap.size w (w.alloc (.cells #[.int .u8 84, .int .u8 71, .int .u8 (l.length : Int)] 5)) := (Below.refl _ w).alloc (Nat.le_refl _) _
  have hrow := heap_alloc_new w (.cells #[.int .u8 84, .int .u8 71, .int .u8 (l.length : Int)] 5)
  have hhead : #[.int .u8 84, .int .u8 71, .int .u8 (l.length : Int)] = ((headB l).map byteV).toArray := by
    unfold headB byteV
    simp only [List.map_cons, List.map_nil, UInt8.toNat_ofNat']
    rw [Nat.mod_eq_of_lt (by omega)]
    rfl
  have ho1 : (w.alloc (.cells #[.int .u8 84, .int .u8 71, .int .u8 (l.length : Int)] 5)).ownsRow w.heap.size 5 1 (.slice (some ⟨w.heap.size, 0, none⟩) 3 3) 3 ((headB l ++ itemsB (l.take 0)).map byteV) :=
    ⟨rfl, .inr ⟨w.heap.size, 3, _, rfl, Nat.le_refl _, hrow, Nat.le_refl _, by unfold maxLen; omega, rfl, by rw [hhead]; simp [itemsB, headB]⟩⟩
  clear hrow hhead
  go_enter Tryd.func26, Tryd.ntmps26
  go_wp2_with fail
  generalize w.alloc (.cells #[.int .u8 84, .int .u8 71, .int .u8 (l.length : Int)] 5) = w1 at *
  go_loopw [3, 4, 5, 6, 7, 8] (fun x i ka ke va ve wr => ∃ n N : Nat, n ≤ l.length ∧ i = .int .i64 n ∧ N = (headB l ++ itemsB (l.take n)).length ∧ wr.ownsRow w.heap.size 5 1 x N ((headB l ++ itemsB (l.take n)).map byteV) ∧ Below w.heap.size w wr) (fun _ i _ _ _ _ _ => l.length - (intOf i).toNat)
  case atStart => exact ⟨0, 3, by omega, rfl, rfl, ho1, hb1⟩
  case round =>
    clear ho1 hb1
    obtain ⟨n, N, hn, rfl, hN, hown, hbw⟩ := hrel
    have HIL := hid (itemsB_len hS n hn)
    have HN := hid hN
    clear hN
    by_cases hlt : n < l.length
    · have hd : decide (n < l.length) = true := by simpa using hlt
      obtain ⟨a, rfl, c0, c1⟩ := (hl.below hbw).at hlt
      have hsz := hS.2 n hlt
      have HIS := hid (itemsB_step l n hlt)
      obtain ⟨K1, hK1⟩ : ∃ K1, K1 = bytesLE l[n].k.data.toList.length 1 ++ l[n].k.data.toList := ⟨_, rfl⟩
      obtain ⟨V1, hV1⟩ : ∃ V1, V1 = bytesLE l[n].v.data.toList.length 2 ++ l[n].v.data.toList := ⟨_, rfl⟩
      have HO := hid (show oneB l[n] = K1 ++ V1 by unfold oneB; rw [hK1, hV1, List.append_assoc])
      have HKl := hid (show K1.length ≤ 33 by rw [hK1, List.length_append, bytesLE_length, size_list]; omega)
      have HVl := hid (show V1.length ≤ 1026 by rw [hV1, List.length_append, bytesLE_length, size_list]; omega)
      have hK := hid (fun W => show Calls Tryd.prog 54 #[.string l[n].k, .int .i64 1] W (RefPost W (0, K1)) by
        rw [hK1, ← refText_ok l[n].k.data.toList 1 (by omega) (by rw [size_list]; omega)]
        exact rtext_any l[n].k 1 W (by omega))
      have hV := hid (fun W => show Calls Tryd.prog 54 #[.string l[n].v, .int .i64 2] W (RefPost W (0, V1)) by
        rw [hV1, ← refText_ok l[n].v.data.toList 2 (by omega) (by rw [size_list]; omega)]
        exact rtext_any l[n].v 2 W (by omega))
      clear hK1 hV1 hsz
      generalize l[n].k = kk at *
      generalize l[n].v = vv at *
      go_wp2_with fail
      refine (hK.out wr).mono ?_
      rintro e w1 ⟨v, rfl, hv⟩
      obtain ⟨A1, d1, rfl, hs1, hA1, _, hb1⟩ := hv.parts
      replace c0 := keep1 hb1 c0
      replace c1 := keep1 hb1 c1
      have hbw1 := hbw.trans (hb1.mono hbw.size)
      have hown1 := own_but hown (But.of_below (R := fun _ => False) hb1) (fun _ _ h => h)
      go_wp2_with fail
      refine (hV.out w1).mono ?_
      rintro e w2 ⟨v, rfl, hv⟩
      obtain ⟨A2, d2, rfl, hs2, hA2, _, hb2⟩ := hv.parts
      have hbw2 := hbw1.trans (hb2.mono hbw1.size)
      have hown2 := own_but hown1 (But.of_below (R := fun _ => False) hb2) (fun _ _ h => h)
      have hs1' := hs1.below hb2
      obtain ⟨N1, hN1⟩ : ∃ N1, N1 = N + K1.length := ⟨_, rfl⟩
      obtain ⟨N2, hN2⟩ : ∃ N2, N2 = N1 + V1.length := ⟨_, rfl⟩
      obtain ⟨M, hM⟩ : ∃ M, M = headB l ++ itemsB (l.take n) := ⟨_, rfl⟩
      rw [← hM] at hown2
      obtain ⟨M1, hM1⟩ : ∃ M1, M1 = M ++ K1 := ⟨_, rfl⟩
      have HM2 := hid (show headB l ++ itemsB (l.take (n + 1)) = M1 ++ V1 by rw [HIS.out, HO.out, hM1, hM, List.append_assoc, List.append_assoc])
      have HML := hid (show M.length = N by rw [HN.out, hM])
      have hIL : N ≤ 70000 := by rw [HN.out, List.length_append]; have := HIL.out; unfold headB; simp only [List.length_cons, List.length_nil]; omega
      have HKV := hid (show K1.map byteV = K1.map byteV from rfl)
      have HX1 := hid (show M.map byteV ++ K1.map byteV = M1.map byteV by rw [hM1, List.map_append])
      have HX2 := hid (show M1.map byteV ++ V1.map byteV = (M1 ++ V1).map byteV by rw [List.map_append])
      have HN1 := hid hN1
      have HN2 := hid hN2
      have HNF := hid (show N2 = (M1 ++ V1).length by rw [hN2, hN1, List.length_append, hM1, List.length_append, HML.out])
      have hwr : w.heap.size ≤ wr.heap.size := hbw.size
      have hown_lt := hid (fun k hk => own_lt hown (k := k) hk)
      clear hv hM hM1 hN1 hN2 hown hown1 hs1 c0 c1 hK hV hbw hbw1
      go_wp2_with (at_builtin; first
        | (refine wpList_app rfl (.tmp 37) (.tmp 38) _ rfl elB rfl hown2 A1 K1.length d1 rfl _ hs1' (by simp) (byte_one _) N1 HN1.out.symm _ HX1.out (by have := HKl.out; rw [HN1.out]; unfold maxLen; omega) (by have := HKl.out; rw [HN1.out]; omega) hbw2.size ?_; intro A3 d3 w3 hown3 hgr3 hat3 hbel3)
        | (refine wpList_app rfl (.tmp 39) (.tmp 40) _ rfl elB rfl hown3 A2 V1.length d2 rfl _ (SeesB.grown hs2 hgr3 (fun a ha he => absurd (hown_lt.out _ he.symm) (by have := (hA2 a ha).1; have := hb1.size; omega))) (by simp) (byte_one _) N2 HN2.out.symm _ HX2.out (by have := HKl.out; have := HVl.out; rw [HN2.out, HN1.out]; unfold maxLen; omega) (by have := HKl.out; have := HVl.out; rw [HN2.out, HN1.out]; omega) (hbw2.trans hbel3).size ?_; intro A4 d4 w4 hown4 hgr4 hat4 hbel4))
      exact ⟨⟨n + 1, N2, hlt, by go_num, by rw [HM2.out, HNF.out], by rw [HM2.out]; exact hown4, (hbw2.trans hbel3).trans hbel4⟩, by simp [intOf]; omega⟩
    · obtain rfl : n = l.length := by omega
      have hd : decide (l.length < l.length) = false := by simp
      obtain ⟨L, hL⟩ : ∃ L, L = tagsB l := ⟨_, rfl⟩
      have hLlen := tagsB_len hS
      rw [List.take_length, show headB l ++ itemsB l = tagsB l from rfl, ← hL] at hown
      rw [← hL] at hLlen
      have hNL : N = L.length := by rw [HN.out, List.take_length, hL]; rfl
      have HL := hid hL
      subst hNL
      obtain ⟨A5, c5, hx5, hs5, hA5⟩ := own_form hown
      subst hx5
      clear hL HN HIL
      have hsB : SeesB wr A5 L := hs5
      go_wp2_with fail
      have hsr := sumI_range L
      obtain ⟨S, hS⟩ := Int.eq_ofNat_of_zero_le hsr.1
      refine (rsum_any A5 c5 L wr hsB (by omega)).mono ?_
      rintro e w6 ⟨rfl, rfl⟩
      have HSE : Hid (sealed (tagsB l) = L ++ bytesLE S 4) := hid (by rw [← HL.out]; unfold sealed; rw [hS]; rfl)
      rw [hS] at hsr ⊢
      have hS4 : S < 4294967296 := by omega
      clear hS
      go_wp2_with fail
      refine (rbytes_any S 4 wr (by omega) (by omega)).mono ?_
      rintro e w7 ⟨v, rfl, hv⟩
      obtain ⟨A7, c7, rfl, hs7, hA7, ho7, hb7⟩ := hv.parts
      have hbw7 := hbw.trans (hb7.mono hbw.size)
      have hown7 := own_but hown (But.of_below (R := fun _ => False) hb7) (fun _ _ h => h)
      obtain ⟨Z, hZ⟩ : ∃ Z, Z = L ++ bytesLE S 4 := ⟨_, rfl⟩
      have HZl : Hid (L.length + (bytesLE S 4).length = Z.length) := hid (by rw [hZ, List.length_append])
      have HZv : Hid (L.map byteV ++ (bytesLE S 4).map byteV = Z.map byteV) := hid (by rw [hZ, List.map_append])
      have HZ19 : Hid (Z.length ≤ 70004) := hid (by rw [← HZl.out, bytesLE_length]; omega)
      have HZ : Hid (sealed (tagsB l) = Z) := hid (by rw [HSE.out, hZ])
      clear hZ HSE hown hv ho7 hb7 hA7 HL hs5 hA5 hsB
      go_wp2_with (at_builtin; refine wpList_app rfl (.tmp 42) (.tmp 46) _ rfl elB rfl hown7 A7 (bytesLE S 4).length c7 rfl _ hs7 (by simp) (byte_one _) Z.length HZl.out (Z.map byteV) HZv.out (by have := HZ19.out; unfold maxLen; omega) (by have := HZ19.out; omega) hbw7.size ?_; intro A8 c8 w8 hown8 hgr8 hat8 hbel8)
      have hf : ClonePost w (sealed (tagsB l)) (.returned (.slice A8 Z.length c8)) w8 := ⟨_, rfl, A8, c8, by rw [HZ.out], by rw [HZ.out]; exact hown8, hbw7.trans hbel8⟩
      go_ret
      exact hf
end Go.Proofs.YtlcbfikmljmlpaaDoor
/- A taker of fields: what its small functions do. -/
namespace Go.Proofs.YtlcbfikmljmlpaaDoor
set_option linter.unusedVariables false
open Go.RowKit
theorem SeesB.cutTo {w : World} {A : Option Addr} {l : List UInt8} (h : SeesB w A l) (k n : Nat) : SeesB w (A.map (·.add k)) ((l.drop k).take n) := by
  intro i v hv
  have hin : i < n := by
    rcases Nat.lt_or_ge i n with h1 | h1
    · exact h1
    · rw [List.getElem?_eq_none (by simp; omega)] at hv; cases hv
  rw [List.getElem?_map, List.getElem?_take_of_lt hin, List.getElem?_drop, ← List.getElem?_map] at hv
  obtain ⟨a, ha, hc⟩ := h _ v hv
  exact ⟨a.add k, by rw [ha]; rfl, by rw [addr_add]; exact hc⟩
theorem own_cap {w : World} {base n size : Nat} {e : TypeId} {A : Option Addr} {c : Nat} {xs : List Value} (h : w.ownsRow base e size (.slice A n c) n xs) : n ≤ c ∧ c ≤ maxLen := by
  rcases h.2 with ⟨h', h0⟩ | ⟨g, cap, cur, h', hb, hg, h1, h2, _⟩
  · injection h' with _ _ h3
    subst h0 h3; exact ⟨Nat.le_refl _, by unfold maxLen; omega⟩
  · injection h' with _ _ h3
    subst h3; exact ⟨h1, h2⟩
/-- block g is a taker with this error, at this place of these bytes -/
def Tk (w : World) (g : Nat) (err : Int) (p : Nat) (l : List UInt8) : Prop :=
  ∃ (A : Option Addr) (c : Nat), w.heap[g]? = some (.cells #[.int .i64 err, .slice A l.length c, .int .i64 (p : Int)] 97 (0, 0)) ∧ SeesB w A l ∧ l.length ≤ c ∧ c ≤ maxLen ∧ p ≤ l.length ∧ ∀ a, A = some a → a.block ≠ g
def Only (g n : Nat) : Prop := n = g
theorem Tk.cells {w : World} {g : Nat} {err : Int} {p : Nat} {l : List UInt8} (h : Tk w g err p l) :
    ∃ (A : Option Addr) (c : Nat), w.cell? ⟨g, 0, none⟩ = some (.int .i64 err) ∧ w.cell? ⟨g, 1, none⟩ = some (.slice A l.length c) ∧ w.cell? ⟨g, 2, none⟩ = some (.int .i64 (p : Int)) ∧ SeesB w A l ∧ l.length ≤ c ∧ c ≤ maxLen ∧ p ≤ l.length ∧ ∀ i, w.frozen? ⟨g, i, none⟩ = false := by
  obtain ⟨A, c, hg, hs, h1, h2, h3, h4⟩ := h
  exact ⟨A, c, by rw [cell_of_row _ _ _ _ _ _ hg]; rfl, by rw [cell_of_row _ _ _ _ _ _ hg]; rfl, by rw [cell_of_row _ _ _ _ _ _ hg]; rfl, hs, h1, h2, h3, fun i => frozen_of_row _ _ _ _ _ hg⟩
theorem Tk.setErr {w : World} {g : Nat} {err : Int} {p : Nat} {l : List UInt8} (h : Tk w g err p l) (e : Int) : Tk (w.setCell ⟨g, 0, none⟩ (.int .i64 e)) g e p l ∧ But (Only g) w (w.setCell ⟨g, 0, none⟩ (.int .i64 e)) := by
  obtain ⟨A, c, hg, hs, h1, h2, h3, h4⟩ := h
  have hb : But (Only g) w (w.setCell ⟨g, 0, none⟩ (.int .i64 e)) := ⟨rfl, rfl, rfl, by simp [World.setCell], fun b _ hb => heap_setCell_other w _ b _ (fun h => hb h)⟩
  exact ⟨⟨A, c, heap_setCell_same w g 0 _ _ _ hg, Sees.but hs hb (fun a ha h => h4 a ha h), h1, h2, h3, h4⟩, hb⟩
theorem Tk.setAt {w : World} {g : Nat} {err : Int} {p : Nat} {l : List UInt8} (h : Tk w g err p l) (q : Nat) (hq : q ≤ l.length) : Tk (w.setCell ⟨g, 2, none⟩ (.int .i64 (q : Int))) g err q l ∧ But (Only g) w (w.setCell ⟨g, 2, none⟩ (.int .i64 (q : Int))) := by
  obtain ⟨A, c, hg, hs, h1, h2, h3, h4⟩ := h
  have hb : But (Only g) w (w.setCell ⟨g, 2, none⟩ (.int .i64 (q : Int))) := ⟨rfl, rfl, rfl, by simp [World.setCell], fun b _ hb => heap_setCell_other w _ b _ (fun h => hb h)⟩
  exact ⟨⟨A, c, heap_setCell_same w g 2 _ _ _ hg, Sees.but hs hb (fun a ha h => h4 a ha h), h1, h2, hq, h4⟩, hb⟩
theorem Tk.below {w w' : World} {g : Nat} {err : Int} {p : Nat} {l : List UInt8} (h : Tk w g err p l) (hb : Below w.heap.size w w') : Tk w' g err p l := by
  obtain ⟨A, c, hg, hs, h1, h2, h3, h4⟩ := h
  exact ⟨A, c, (hb.block g (Array.getElem?_eq_some_iff.1 hg).1).trans hg, hs.below hb, h1, h2, h3, h4⟩
set_option maxHeartbeats 400000 in
theorem tready_is (g : Nat) (err : Int) (b : Bool) (w : World) (hc0 : w.cell? ⟨g, 0, none⟩ = some (.int .i64 err)) (h : (err == 0) = b) :
    Calls Tryd.prog 70 #[.pointer (some ⟨g, 0, none⟩)] w fun x w' => x = .returned (.bool b) ∧ w = w' := by
  go_enter Tryd.func70, Tryd.ntmps70
  go_wp2
  go_ret
  exact ⟨rfl, rfl⟩
set_option maxHeartbeats 400000 in
theorem tready_nil (w : World) :
    Calls Tryd.prog 70 #[.pointer none] w fun x w' => x = .returned (.bool false) ∧ w = w' := by
  go_enter Tryd.func70, Tryd.ntmps70
  go_wp2
  go_ret
  exact ⟨rfl, rfl⟩
def TakePost (w : World) (l : List UInt8) (e : Ending) (w' : World) : Prop := ∃ g, e = .returned (.pointer (some ⟨g, 0, none⟩)) ∧ w.heap.size ≤ g ∧ Tk w' g 0 0 l ∧ Below w.heap.size w w'
set_option maxHeartbeats 1000000 in
theorem take_any (A : Option Addr) (c : Nat) (l : List UInt8) (w : World) (hl : SeesB w A l) (hlen : l.length ≤ 140737488355328) :
    Calls Tryd.prog 47 #[.slice A l.length c] w (TakePost w l) := by
  go_enter Tryd.func47, Tryd.ntmps47
  go_wp2_with fail
  refine (clone_any A c l _ hl hlen).mono ?_
  rintro e w1 ⟨v, rfl, hv⟩
  obtain ⟨A1, c1, rfl, hs, hA, ho, hb⟩ := hv.parts
  go_wp2_with fail
  go_ret
  refine ⟨w1.heap.size, rfl, hb.size, ⟨A1, c1, heap_alloc_new _ _, SeesB.below hs ((Below.refl _ w1).alloc (Nat.le_refl _) _), (own_cap ho).1, (own_cap ho).2, Nat.zero_le _, fun a ha => ?_⟩, hb.alloc hb.size _⟩
  have := (hA a ha).2
  omega
/-- what a taker that is fine gives of the next n bytes -/
def tnext (p : Nat) (l : List UInt8) (n : Nat) : (Int × Nat) × List UInt8 := if l.length - p < n then ((10, p), []) else ((0, p + n), (l.drop p).take n)
def NextPost (w : World) (g : Nat) (l : List UInt8) (r : (Int × Nat) × List UInt8) (e : Ending) (w' : World) : Prop :=
  ∃ (A : Option Addr) (c : Nat), e = .returned (.slice A r.2.length c) ∧ SeesB w' A r.2 ∧ r.2.length ≤ c ∧ c ≤ maxLen ∧ Tk w' g r.1.1 r.1.2 l ∧ But (Only g) w w'
set_option maxHeartbeats 1000000 in
theorem tnext_any (g : Nat) (p n : Nat) (l : List UInt8) (w : World) (h : Tk w g 0 p l) (hlen : l.length ≤ 140737488355328) (hn : n ≤ 9223372036854775807) :
    Calls Tryd.prog 71 #[.pointer (some ⟨g, 0, none⟩), .int .i64 (n : Int)] w (NextPost w g l (tnext p l n)) := by
  obtain ⟨A, c, hc0, hc1, hc2, hs, h1, h2, h3, hf⟩ := h.cells
  have hf0 := hf 0
  have hf2 := hf 2
  by_cases hlt : l.length - p < n
  · rw [tnext, if_pos hlt]
    have d1 : decide ((l.length : Int) - p < n) = true := by simp; omega
    go_enter Tryd.func71, Tryd.ntmps71
    go_wp2_with fail
    go_quiet (fail)
    go_wp2_with fail
    have hdr : Below w.heap.size w (w.drewN nq) := ⟨rfl, rfl, rfl, Nat.le_refl _, fun _ _ => rfl⟩
    refine (fail_ok g 10 (w.drewN nq) hc0 hf0).mono ?_
    rintro e w' ⟨rfl, rfl⟩
    go_wp2_with fail
    have hT := (h.below hdr).setErr 10
    go_ret
    exact ⟨none, 0, rfl, Sees.nil _ _, Nat.le_refl _, by unfold maxLen; omega, hT.1, (But.of_below (R := Only g) hdr).trans hT.2 (fun n h => .inl h)⟩
  · rw [tnext, if_neg hlt]
    have d1 : decide ((n : Int) > (l.length : Int) - p) = false := by simp; omega
    have hw2 : wrap64 ((p : Int) + n) = ((p + n : Nat) : Int) := by unfold wrap64; unfold maxLen at h2; omega
    go_enter Tryd.func71, Tryd.ntmps71
    go_wp2_with fail
    go_quiet (fail)
    go_wp2_with fail
    have hdr : Below w.heap.size w (w.drewN nq) := ⟨rfl, rfl, rfl, Nat.le_refl _, fun _ _ => rfl⟩
    have hT := (h.below hdr).setAt (p + n) (by omega)
    rw [show ((p + n : Nat) : Int) = (p : Int) + n by omega] at hT
    generalize (w.drewN nq).setCell ⟨g, 2, none⟩ (.int .i64 ((p : Int) + n)) = w1 at *
    obtain ⟨hT1, hT2⟩ := hT
    clear hc0 hc1 hc2 hs hf hf0 hf2
    obtain ⟨A, c, hc0, hc1, hc2, hs, h1, h2, h3, hf⟩ := hT1.cells
    rw [show ((p + n : Nat) : Int) = (p : Int) + n by omega] at hc2
    have b0 : 0 ≤ (p : Int) := by omega
    have b1 : (p : Int) ≤ p + n := by omega
    have b2 : (p : Int) + n ≤ c := by omega
    go_quiet (fail)
    go_wp2_with fail
    · have hl2 : (l.drop p).take n = [] := by rw [List.drop_eq_nil_of_le (by omega), List.take_nil]
      have hn0 : n = 0 := by omega
      have hd1 : Below w1.heap.size w1 (w1.drewN nq) := ⟨rfl, rfl, rfl, Nat.le_refl _, fun _ _ => rfl⟩
      rw [hl2]
      refine bodyPost_ret (results_tmp rfl _ _ _) rfl ?_
      refine ⟨A, 0, ?_, Sees.nil _ _, Nat.le_refl _, by unfold maxLen; omega, hT1.below hd1, ((But.of_below (R := Only g) hdr).trans hT2 (fun n h => .inl h)).trans (But.of_below (R := fun _ => False) hd1) (fun n h => h.elim)⟩
      subst hn0; rfl
    · have hlen2 : ((l.drop p).take n).length = n := by simp; omega
      have hd1 : Below w1.heap.size w1 (w1.drewN nq) := ⟨rfl, rfl, rfl, Nat.le_refl _, fun _ _ => rfl⟩
      have hf : NextPost w g l ((0, p + n), (l.drop p).take n) (.returned (.slice (A.map (·.add p)) n (c - p))) (w1.drewN nq) :=
        ⟨_, _, by rw [hlen2], SeesB.cutTo (SeesB.below hs hd1) p n, by rw [hlen2]; omega, by omega, hT1.below hd1, ((But.of_below (R := Only g) hdr).trans hT2 (fun n h => .inl h)).trans (But.of_below (R := fun _ => False) hd1) (fun n h => h.elim)⟩
      go_ret
      exact hf
end Go.Proofs.YtlcbfikmljmlpaaDoor
/- A taker's number. -/
namespace Go.Proofs.YtlcbfikmljmlpaaDoor
set_option linter.unusedVariables false
open Go.RowKit
/-- a number of its bytes, the lowest first -/
def valLE (l : List UInt8) : Nat := l.foldr (fun b v => b.toNat + 256 * v) 0
theorem valLE_snoc (l : List UInt8) (b : UInt8) : valLE (l ++ [b]) = valLE l + b.toNat * 256 ^ l.length := by
  induction l with
  | nil => simp [valLE]
  | cons x l ih =>
    have e1 : valLE (x :: l ++ [b]) = x.toNat + 256 * valLE (l ++ [b]) := rfl
    have e2 : valLE (x :: l) = x.toNat + 256 * valLE l := rfl
    rw [e1, ih, e2, List.length_cons, Nat.pow_succ, Nat.mul_add, ← Nat.mul_assoc, Nat.add_assoc]
    congr 2
    rw [Nat.mul_comm 256, Nat.mul_assoc, Nat.mul_comm 256]
theorem valLE_lt (l : List UInt8) : valLE l < 256 ^ l.length := by
  induction l with
  | nil => simp [valLE]
  | cons x l ih =>
    have e2 : valLE (x :: l) = x.toNat + 256 * valLE l := rfl
    have := x.toNat_lt
    rw [e2, List.length_cons, Nat.pow_succ]
    omega
/-- what a taker that is fine gives of a field of n bytes -/
def takeU (s : Int × Nat) (l : List UInt8) (n : Int) : (Int × Nat) × List UInt8 :=
  if s.1 ≠ 0 then (s, []) else if n < 1 ∨ 8 < n then ((1, s.2), []) else tnext s.2 l n.toNat
def UPost (w : World) (g : Nat) (l : List UInt8) (r : (Int × Nat) × List UInt8) (e : Ending) (w' : World) : Prop :=
  e = .returned (.int .u64 (valLE r.2 : Nat)) ∧ Tk w' g r.1.1 r.1.2 l ∧ But (Only g) w w'
theorem or_add (v : Nat) (b : UInt8) (k : Nat) (hk : k < 8) (hv : v < 256 ^ k) : bits .or .u64 (v : Int) (IntKind.u64.wrap ((b.toNat : Int) * 2 ^ (8 * k))) = ((v + b.toNat * 256 ^ k : Nat) : Int) := by
  have hb := b.toNat_lt
  have hp : (2 : Nat) ^ (8 * k) = 256 ^ k := by rw [Nat.pow_mul]
  have h8 : 256 ^ k ≤ 256 ^ 7 := Nat.pow_le_pow_right (by omega) (by omega)
  have hm : b.toNat * 256 ^ k < 18446744073709551616 := by
    have := Nat.mul_le_mul (show b.toNat ≤ 255 by omega) h8
    omega
  have hw : IntKind.u64.wrap ((b.toNat : Int) * 2 ^ (8 * k)) = ((b.toNat * 2 ^ (8 * k) : Nat) : Int) := by
    rw [IntKind.wrap_u64, show (b.toNat : Int) * 2 ^ (8 * k) = ((b.toNat * 2 ^ (8 * k) : Nat) : Int) by push_cast; rfl, hp]
    omega
  have ho : v ||| b.toNat * 2 ^ (8 * k) = v + b.toNat * 256 ^ k := by
    rw [Nat.or_comm, Nat.mul_comm b.toNat, ← Nat.two_pow_add_eq_or_of_lt (by rw [hp]; exact hv), hp, Nat.mul_comm]; omega
  rw [hw, bits_or_u64_nat v _ (by omega) (by rw [hp]; exact hm), ho]
set_option maxHeartbeats 1000000 in
theorem takerU_any (g : Nat) (err : Int) (p : Nat) (n : Int) (l : List UInt8) (w : World) (h : Tk w g err p l) (hlen : l.length ≤ 140737488355328) :
    Calls Tryd.prog 49 #[.pointer (some ⟨g, 0, none⟩), .int .i64 n] w (UPost w g l (takeU (err, p) l n)) := by
  obtain ⟨A, c, hc0, hc1, hc2, hs, h1, h2, h3, hf⟩ := h.cells
  have hf0 := hf 0
  by_cases h0 : err = 0
  · subst h0
    by_cases hn : n < 1 ∨ 8 < n
    · rw [takeU, if_neg (by simp), if_pos hn]
      have hT := h.setErr 1
      go_enter Tryd.func49, Tryd.ntmps49
      go_wp2_with fail
      refine (tready_is g 0 true _ hc0 rfl).mono ?_
      rintro e w' ⟨rfl, rfl⟩
      go_wp2_with fail
      refine (may_no g n _ hc0 hf0 hn).mono ?_
      rintro e w' ⟨rfl, rfl⟩
      go_wp2_with fail
      go_ret
      exact ⟨rfl, hT.1, hT.2⟩
    · rw [takeU, if_neg (by simp), if_neg hn]
      obtain ⟨N, rfl⟩ := Int.eq_ofNat_of_zero_le (show 0 ≤ n by omega)
      have hN : 1 ≤ N ∧ N ≤ 8 := by omega
      rw [show ((N : Int)).toNat = N from rfl]
      have hr8 : (tnext p l N).2.length ≤ 8 := by
        unfold tnext; split
        · simp
        · simp; omega
      have hnx := tnext_any g p N l w h hlen (by omega)
      generalize tnext p l N = r at hr8 hnx
      go_enter Tryd.func49, Tryd.ntmps49
      go_wp2_with fail
      refine (tready_is g 0 true _ hc0 rfl).mono ?_
      rintro e w' ⟨rfl, rfl⟩
      go_wp2_with fail
      refine (may_yes g (N : Int) _ hc0 (by omega)).mono ?_
      rintro e w' ⟨rfl, rfl⟩
      go_wp2_with fail
      refine hnx.mono ?_
      rintro e w1 ⟨A1, c1, rfl, hs1, hc1', hc2', hT, hB⟩
      obtain ⟨m, hm⟩ : ∃ m, m = r.2.length := ⟨_, rfl⟩
      rw [← hm]
      go_wp2_with fail
      go_loop [5, 6, 7, 23] (fun v x y i => ∃ k : Nat, k ≤ r.2.length ∧ i = .int .i64 k ∧ v = .int .u64 (valLE (r.2.take k) : Nat)) (fun _ _ _ i => r.2.length - (intOf i).toNat)
      case atStart => exact ⟨0, by omega, rfl, rfl⟩
      case round =>
        obtain ⟨k, hk, rfl, rfl⟩ := hrel
        by_cases hlt : k < r.2.length
        · have hd : decide ((k : Int) < m) = true := by simp; omega
          obtain ⟨a, rfl, hc⟩ := hs1.at hlt
          have hbl := byte_lt r.2[k]
          go_wp2_with fail
          exact ⟨⟨k + 1, hlt, by go_num, by rw [or_add _ _ k (by omega) (by have := valLE_lt (r.2.take k); rwa [List.length_take, Nat.min_eq_left hk] at this), List.take_succ_eq_append_getElem hlt, valLE_snoc, List.length_take, Nat.min_eq_left hk]⟩, by simp [intOf]; omega⟩
        · obtain rfl : k = m := by omega
          have hd : decide ((k : Int) < k) = false := by simp
          have hfull : r.2.take k = r.2 := by rw [hm]; exact List.take_length
          rw [hfull]
          go_wp2_with fail
          go_ret
          exact ⟨rfl, hT, hB⟩
  · have d0 : (err == 0) = false := by simpa using h0
    rw [takeU, if_pos h0]
    go_enter Tryd.func49, Tryd.ntmps49
    go_wp2_with fail
    refine (tready_is g err false _ hc0 d0).mono ?_
    rintro e w' ⟨rfl, rfl⟩
    go_wp2_with fail
    go_ret
    exact ⟨rfl, h, But.refl _ _⟩
end Go.Proofs.YtlcbfikmljmlpaaDoor
