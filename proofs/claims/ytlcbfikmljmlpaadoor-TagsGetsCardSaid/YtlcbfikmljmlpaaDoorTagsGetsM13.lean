/- Tags as bytes: the program's Put. -/
import Derived.Test.YtlcbfikmljmlpaaDoorTagsGetsM10
import Derived.Test.YtlcbfikmljmlpaaDoorTagsGetsM11
import Derived.Test.YtlcbfikmljmlpaaDoorTagsGetsM12
import Derived.Laws.Bits64b
namespace Go.Proofs.YtlcbfikmljmlpaaDoor
set_option linter.unusedVariables false
open Go.RowKit
theorem short_of {l : List TagV} (h : (checkT l).2 = 0) : Short l := by
  obtain ⟨h64, ha⟩ := checkT_ok h
  refine ⟨h64, fun i hi => ?_⟩
  obtain ⟨hb, hv⟩ := ha i hi
  unfold badAt at hb
  rw [Bool.or_eq_false_iff] at hb
  have hk : keyB l[i].k = true := by have := hb.1; simpa using this
  unfold keyB at hk
  unfold valB at hv
  simp only [Bool.and_eq_true, decide_eq_true_eq] at hk hv
  exact ⟨hk.2.2, hv.1⟩
/-- a text that is short enough is laid as it is -/
theorem putText_ok (l b : List UInt8) (n : Nat) (h : 1 ≤ n ∧ n ≤ 8) (hv : b.length < 256 ^ n) : putText (0, l) b (n : Int) = (0, l ++ (bytesLE b.length n ++ b)) := by
  unfold putText
  rw [putU_ok l b.length n h hv]
  unfold putRaw
  rw [if_neg (by simp), List.append_assoc]
theorem tagput_nil (v : Value) (w : World) : Calls Tryd.prog 23 #[.pointer none, v] w fun e w' => e = .returned (.tuple #[.slice none 0 0, .int .i64 2]) ∧ w = w' := by
  go_enter Tryd.func23, Tryd.ntmps23
  go_wp2_with fail
  go_ret2
  exact ⟨rfl, rfl⟩
set_option maxRecDepth 20000 in
set_option maxHeartbeats 2000000 in
theorem tagput_bad (g : Nat) (A : Option Addr) (c : Nat) (l : List TagV) (w : World) (hl : SeesT w A l) (hlc : l.length ≤ c) (hlen : l.length ≤ maxLen) (hs : Brief l) (hT : Tabs w) (hb : (checkT l).2 ≠ 0) :
    Calls Tryd.prog 23 #[.pointer (some ⟨g, 0, none⟩), .slice A l.length c] w fun e w' => e = .returned (.tuple #[.slice none 0 0, .int .i64 (checkT l).2]) ∧ Below w.heap.size w w' := by
  have hC := hid (check_any A c l w hl hlc hlen hs hT)
  generalize checkT l = R at *
  obtain ⟨a, e⟩ := R
  simp only at hb hC ⊢
  have de : (e != 0) = true := by simpa using hb
  go_enter Tryd.func23, Tryd.ntmps23
  go_wp2_with fail
  refine hC.out.mono ?_
  rintro e w1 ⟨rfl, hb1⟩
  go_wp2_with fail
  go_ret2
  exact ⟨rfl, hb1⟩
set_option maxRecDepth 20000 in
set_option maxHeartbeats 4000000 in
theorem tagput_ok (g : Nat) (A : Option Addr) (c : Nat) (l : List TagV) (w : World) (ht : Tab w g) (hl : SeesT w A l) (hlc : l.length ≤ c) (hlen : l.length ≤ maxLen) (hs : Brief l) (hT : Tabs w) (hz : (checkT l).2 = 0) :
    Calls Tryd.prog 23 #[.pointer (some ⟨g, 0, none⟩), .slice A l.length c] w (PutPost w (sealed (tagsB l))) := by
  have htg := ht.lt
  have hS := short_of hz
  have hC := hid (check_any A c l w hl hlc hlen hs hT)
  generalize checkT l = R at *
  obtain ⟨a, e⟩ := R
  simp only at hz hC
  subst hz
  have h64 := hS.1
  have hln : (l.length : Int) % 256 = (l.length : Int) := by omega
  go_enter Tryd.func23, Tryd.ntmps23
  go_wp2_with fail
  refine hC.out.mono ?_
  rintro e w1 ⟨rfl, hb1⟩
  have hl1 := hl.below hb1
  have hm := mk_new w1
  have hb2 : Below w1.heap.size w1 (w1.alloc (.cells #[.int .i64 0, .slice none 0 0] 65)) := (Below.refl _ w1).alloc (Nat.le_refl _) _
  have hsz2 : (w1.alloc (.cells #[.int .i64 0, .slice none 0 0] 65)).heap.size = w1.heap.size + 1 := by simp
  have hbw2 := hb1.trans (hb2.mono hb1.size)
  have hhead := hid (show #[.int .u8 84, .int .u8 71, .int .u8 (l.length : Int)] = ((headB l).map byteV).toArray by
    unfold headB byteV
    simp only [List.map_cons, List.map_nil, UInt8.toNat_ofNat']
    rw [Nat.mod_eq_of_lt (by omega)]
    rfl)
  have hwl : w.heap.size ≤ w1.heap.size := hb1.size
  go_wp2_with fail
  generalize w1.alloc (.cells #[.int .i64 0, .slice none 0 0] 65) = w2 at *
  have hb3 : Below w2.heap.size w2 (w2.alloc (.cells #[.int .u8 84, .int .u8 71, .int .u8 (l.length : Int)] 5)) := (Below.refl _ w2).alloc (Nat.le_refl _) _
  have hs3 : SeesB (w2.alloc (.cells #[.int .u8 84, .int .u8 71, .int .u8 (l.length : Int)] 5)) (some ⟨w1.heap.size + 1, 0, none⟩) (headB l) := by
    rw [← hsz2]
    exact Sees.of_block (heap_alloc_new w2 _) (by rw [hhead.out])
  have hm3 := hm.below hb3
  have hbw3 := hbw2.trans (hb3.mono hbw2.size)
  clear hm hb3 hhead
  generalize w2.alloc (.cells #[.int .u8 84, .int .u8 71, .int .u8 (l.length : Int)] 5) = w3 at *
  refine (raw_any w1.heap.size _ 0 [] _ 3 (headB l) w3 hm3 hs3 (by simp [headB])).mono ?_
  rintro e w4 ⟨rfl, R4, hm4, hB4, hR4⟩
  rw [show putRaw (0, []) (headB l) = (0, headB l) from rfl] at hm4
  generalize w1.heap.size = g0 at *
  have hR4' : ∀ b, R4 b → g0 ≤ b := fun b h => by
    rcases hR4 b h with h | h
    · exact Nat.le_of_eq h.symm
    · have := hm3.lt; omega
  have hbw4 := But.below hbw3 hB4 (fun n h => by omega) hbw3.size
  clear hm3 hs3 hB4 hR4 hbw3 hb2 hsz2 hbw2 hl1 hb1
  go_wp2_with fail
  go_loopw [10, 33] (fun x i wr => ∃ n : Nat, n ≤ l.length ∧ i = .int .i64 n ∧ ∃ R, Mk wr g0 R 0 (headB l ++ itemsB (l.take n)) ∧ (∀ b, R b → g0 ≤ b) ∧ Below w.heap.size w wr) (fun _ i _ => l.length - (intOf i).toNat)
  case atStart => exact ⟨0, by omega, rfl, R4, by simpa [itemsB] using hm4, hR4', hbw4⟩
  case round =>
    clear hm4 hR4' hbw4
    obtain ⟨n, hn, rfl, R, hm, hR, hbw⟩ := hrel
    have HIL := hid (itemsB_len hS n hn)
    by_cases hlt : n < l.length
    · have hd : decide (n < l.length) = true := by simpa using hlt
      obtain ⟨a, rfl, x1, x2⟩ := (hl.below hbw).at hlt
      have hsz := hS.2 n hlt
      have HIS := hid (itemsB_step l n hlt)
      obtain ⟨M, hM⟩ : ∃ M, M = headB l ++ itemsB (l.take n) := ⟨_, rfl⟩
      have hML : M.length ≤ 70000 := by rw [hM, List.length_append]; have := HIL.out; unfold headB; simp only [List.length_cons, List.length_nil]; omega
      obtain ⟨K1, hK1⟩ : ∃ K1, K1 = bytesLE l[n].k.data.toList.length 1 ++ l[n].k.data.toList := ⟨_, rfl⟩
      obtain ⟨V1, hV1⟩ : ∃ V1, V1 = bytesLE l[n].v.data.toList.length 2 ++ l[n].v.data.toList := ⟨_, rfl⟩
      have HO := hid (show oneB l[n] = K1 ++ V1 by unfold oneB; rw [hK1, hV1, List.append_assoc])
      have HM2 := hid (show headB l ++ itemsB (l.take (n + 1)) = M ++ K1 ++ V1 by rw [HIS.out, HO.out, hM, List.append_assoc, List.append_assoc])
      have HKl : K1.length ≤ 33 := by rw [hK1, List.length_append, bytesLE_length, size_list]; omega
      have hK := hid (fun R W (h : Mk W g0 R 0 M) => show Calls Tryd.prog 42 #[.pointer (some ⟨g0, 0, none⟩), .string l[n].k, .int .i64 1] W (MkPost W g0 R (0, M ++ K1)) by
        rw [hK1, ← putText_ok M l[n].k.data.toList 1 (by omega) (by rw [size_list]; omega)]
        exact text_any g0 R 0 M l[n].k 1 W h (by omega))
      have hV := hid (fun R W (h : Mk W g0 R 0 (M ++ K1)) => show Calls Tryd.prog 42 #[.pointer (some ⟨g0, 0, none⟩), .string l[n].v, .int .i64 2] W (MkPost W g0 R (0, M ++ K1 ++ V1)) by
        rw [hV1, ← putText_ok (M ++ K1) l[n].v.data.toList 2 (by omega) (by rw [size_list]; omega)]
        exact text_any g0 R 0 (M ++ K1) l[n].v 2 W h (by rw [List.length_append]; omega))
      rw [← hM] at hm
      clear hK1 hV1 hsz hM HIS HO HIL
      generalize l[n].k = kk at *
      generalize l[n].v = vv at *
      have hRs : ∀ b, R b → b < wr.heap.size := by
        obtain ⟨_, _, _, _, _, _, hz⟩ := hm
        exact hz
      have hgl := hm.lt
      have hb6 : Below wr.heap.size wr (wr.alloc (.cells #[.string kk, .string vv] 30)) := (Below.refl _ wr).alloc (Nat.le_refl _) _
      have hrow := heap_alloc_new wr (.cells #[.string kk, .string vv] 30)
      have hlt6 := (Array.getElem?_eq_some_iff.1 hrow).1
      have c0 : (wr.alloc (.cells #[.string kk, .string vv] 30)).cell? ⟨wr.heap.size, 0, none⟩ = some (.string kk) := by rw [cell_of_row _ _ _ _ _ _ hrow]; rfl
      have hm6 := hm.below hb6
      have hbw6 := hbw.trans (hb6.mono hbw.size)
      have hgr : w.heap.size ≤ wr.heap.size := hbw.size
      clear hm hb6 hbw
      go_wp2_with fail
      generalize wr.alloc (.cells #[.string kk, .string vv] 30) = w6 at *
      generalize wr.heap.size = gx at *
      refine (hK.out R w6 hm6).mono ?_
      rintro e w7 ⟨rfl, R7, hm7, hB7, hR7⟩
      have hrow7 := (hB7.block gx hlt6 (fun h => by have := hRs _ h; omega)).trans hrow
      have hlt7 := Nat.lt_of_lt_of_le hlt6 hB7.size
      have c1 : w7.cell? ⟨gx, 1, none⟩ = some (.string vv) := by rw [cell_of_row _ _ _ _ _ _ hrow7]; rfl
      have hbw7 := But.below hbw6 hB7 (fun b h => by have := hR b h; omega) hbw6.size
      have hR7' : ∀ b, R7 b → g0 ≤ b := fun b h => by
        rcases hR7 b h with h | h
        · exact hR b h
        · omega
      clear c0 hrow hm6 hB7 hR7 hbw6
      go_wp2_with fail
      refine (hV.out R7 w7 hm7).mono ?_
      rintro e w8 ⟨rfl, R8, hm8, hB8, hR8⟩
      have hbw8 := But.below hbw7 hB8 (fun b h => by have := hR7' b h; omega) hbw7.size
      have hR8' : ∀ b, R8 b → g0 ≤ b := fun b h => by
        rcases hR8 b h with h | h
        · exact hR7' b h
        · omega
      clear c1 hm7 hB8 hR8 hbw7
      go_wp2_with fail
      exact ⟨⟨n + 1, hlt, by go_num, R8, by rw [HM2.out]; exact hm8, hR8', hbw8⟩, by simp [intOf]; omega⟩
    · obtain rfl : n = l.length := by omega
      have hd : decide (l.length < l.length) = false := by simp
      have HLl := hid (tagsB_len hS)
      have hm4 : Mk wr g0 R 0 (tagsB l) := by rw [List.take_length] at hm; exact hm
      clear hm HIL
      generalize tagsB l = L at *
      go_wp2_with fail
      refine (bytes_ok g0 R L wr hm4 (by have := HLl.out; omega)).mono ?_
      rintro e w8 ⟨v, rfl, hv⟩
      obtain ⟨A8, c8, rfl, hs8, hA8, ho8, hb8⟩ := hv.parts
      have hbw8 := hbw.trans (hb8.mono hbw.size)
      have hm8 := hm4.below hb8
      have hsr := sumI_range L
      obtain ⟨S, hS4⟩ := Int.eq_ofNat_of_zero_le hsr.1
      go_wp2_with fail
      refine (sum_any g A8 c8 L w8 (ht.keep hbw8 htg) hs8 (by have := HLl.out; omega)).mono ?_
      rintro e w9 ⟨rfl, rfl⟩
      have hse : sealed L = L ++ bytesLE S 4 := by unfold sealed; rw [hS4]; rfl
      have HSE := hid hse
      rw [hS4] at hsr ⊢
      have hS5 : S < 4294967296 := by omega
      clear hse hS4
      have hp : putU (0, L) S 4 = (0, L ++ bytesLE S 4) := putU_ok _ S 4 (by omega) (by omega)
      have hst := hid (makerU_any g0 R 0 L S 4 w8 hm8 (by omega) (by have := HLl.out; omega))
      rw [hp] at hst
      clear hp hv ho8 hs8 hA8
      go_wp2_with fail
      refine hst.out.mono ?_
      rintro e wa ⟨rfl, Ra, hma, hBa, hRa⟩
      have hbwa := But.below hbw8 hBa (fun b h => by have := hR b h; omega) hbw8.size
      go_wp2_with fail
      refine (bytes_ok g0 Ra _ wa hma (by rw [List.length_append, bytesLE_length]; have := HLl.out; omega)).mono ?_
      rintro e wb ⟨v, rfl, hv⟩
      have hf : PutPost w (sealed L) (.returned (.tuple #[v, .int .i64 0])) wb := ⟨v, rfl, by rw [HSE.out]; exact hv.lower hbwa⟩
      go_wp2_with fail
      go_ret2
      exact hf
end Go.Proofs.YtlcbfikmljmlpaaDoor
/- A taker of fields: what its small functions do. -/
namespace Go.Proofs.YtlcbfikmljmlpaaDoor
set_option linter.unusedVariables false
open Go.RowKit
theorem SeesB.cutTo {w : World} {A : Option Addr} {l : List UInt8} (h : SeesB w A l) (k n : Nat) : SeesB w (A.map (·.add k)) ((l.drop k).take n) := by
  intro i v hv
  have hin : i < n := by
    rcases Nat.lt_or_ge i n with h1 | h1
    · exact h1
    · rw [List.getElem?_eq_none (by simp; omega)] at hv; cases hv
  rw [List.getElem?_map, List.getElem?_take_of_lt hin, List.getElem?_drop, ← List.getElem?_map] at hv
  obtain ⟨a, ha, hc⟩ := h _ v hv
  exact ⟨a.add k, by rw [ha]; rfl, by rw [addr_add]; exact hc⟩
theorem own_cap {w : World} {base n size : Nat} {e : TypeId} {A : Option Addr} {c : Nat} {xs : List Value} (h : w.ownsRow base e size (.slice A n c) n xs) : n ≤ c ∧ c ≤ maxLen := by
  rcases h.2 with ⟨h', h0⟩ | ⟨g, cap, cur, h', hb, hg, h1, h2, _⟩
  · injection h' with _ _ h3
    subst h0 h3; exact ⟨Nat.le_refl _, by unfold maxLen; omega⟩
  · injection h' with _ _ h3
    subst h3; exact ⟨h1, h2⟩
/-- block g is a taker with this error, at this place of these bytes -/
def Tk (w : World) (g : Nat) (err : Int) (p : Nat) (l : List UInt8) : Prop :=
  ∃ (A : Option Addr) (c : Nat), w.heap[g]? = some (.cells #[.int .i64 err, .slice A l.length c, .int .i64 (p : Int)] 97 (0, 0)) ∧ SeesB w A l ∧ l.length ≤ c ∧ c ≤ maxLen ∧ p ≤ l.length ∧ ∀ a, A = some a → a.block ≠ g
def Only (g n : Nat) : Prop := n = g
theorem Tk.cells {w : World} {g : Nat} {err : Int} {p : Nat} {l : List UInt8} (h : Tk w g err p l) :
    ∃ (A : Option Addr) (c : Nat), w.cell? ⟨g, 0, none⟩ = some (.int .i64 err) ∧ w.cell? ⟨g, 1, none⟩ = some (.slice A l.length c) ∧ w.cell? ⟨g, 2, none⟩ = some (.int .i64 (p : Int)) ∧ SeesB w A l ∧ l.length ≤ c ∧ c ≤ maxLen ∧ p ≤ l.length ∧ ∀ i, w.frozen? ⟨g, i, none⟩ = false := by
  obtain ⟨A, c, hg, hs, h1, h2, h3, h4⟩ := h
  exact ⟨A, c, by rw [cell_of_row _ _ _ _ _ _ hg]; rfl, by rw [cell_of_row _ _ _ _ _ _ hg]; rfl, by rw [cell_of_row _ _ _ _ _ _ hg]; rfl, hs, h1, h2, h3, fun i => frozen_of_row _ _ _ _ _ hg⟩
theorem Tk.setErr {w : World} {g : Nat} {err : Int} {p : Nat} {l : List UInt8} (h : Tk w g err p l) (e : Int) : Tk (w.setCell ⟨g, 0, none⟩ (.int .i64 e)) g e p l ∧ But (Only g) w (w.setCell ⟨g, 0, none⟩ (.int .i64 e)) := by
  obtain ⟨A, c, hg, hs, h1, h2, h3, h4⟩ := h
  have hb : But (Only g) w (w.setCell ⟨g, 0, none⟩ (.int .i64 e)) := ⟨rfl, rfl, rfl, by simp [World.setCell], fun b _ hb => heap_setCell_other w _ b _ (fun h => hb h)⟩
  exact ⟨⟨A, c, heap_setCell_same w g 0 _ _ _ hg, Sees.but hs hb (fun a ha h => h4 a ha h), h1, h2, h3, h4⟩, hb⟩
theorem Tk.setAt {w : World} {g : Nat} {err : Int} {p : Nat} {l : List UInt8} (h : Tk w g err p l) (q : Nat) (hq : q ≤ l.length) : Tk (w.setCell ⟨g, 2, none⟩ (.int .i64 (q : Int))) g err q l ∧ But (Only g) w (w.setCell ⟨g, 2, none⟩ (.int .i64 (q : Int))) := by
  obtain ⟨A, c, hg, hs, h1, h2, h3, h4⟩ := h
  have hb : But (Only g) w (w.setCell ⟨g, 2, none⟩ (.int .i64 (q : Int))) := ⟨rfl, rfl, rfl, by simp [World.setCell], fun b _ hb => heap_setCell_other w _ b _ (fun h => hb h)⟩
  exact ⟨⟨A, c, heap_setCell_same w g 2 _ _ _ hg, Sees.but hs hb (fun a ha h => h4 a ha h), h1, h2, hq, h4⟩, hb⟩
theorem Tk.below {w w' : World} {g : Nat} {err : Int} {p : Nat} {l : List UInt8} (h : Tk w g err p l) (hb : Below w.heap.size w w') : Tk w' g err p l := by
  obtain ⟨A, c, hg, hs, h1, h2, h3, h4⟩ := h
  exact ⟨A, c, (hb.block g (Array.getElem?_eq_some_iff.1 hg).1).trans hg, hs.below hb, h1, h2, h3, h4⟩
set_option maxHeartbeats 400000 in
theorem tready_is (g : Nat) (err : Int) (b : Bool) (w : World) (hc0 : w.cell? ⟨g, 0, none⟩ = some (.int .i64 err)) (h : (err == 0) = b) :
    Calls Tryd.prog 70 #[.pointer (some ⟨g, 0, none⟩)] w fun x w' => x = .returned (.bool b) ∧ w = w' := by
  go_enter Tryd.func70, Tryd.ntmps70
  go_wp2
  go_ret
  exact ⟨rfl, rfl⟩
set_option maxHeartbeats 400000 in
theorem tready_nil (w : World) :
    Calls Tryd.prog 70 #[.pointer none] w fun x w' => x = .returned (.bool false) ∧ w = w' := by
  go_enter Tryd.func70, Tryd.ntmps70
  go_wp2
  go_ret
  exact ⟨rfl, rfl⟩
def TakePost (w : World) (l : List UInt8) (e : Ending) (w' : World) : Prop := ∃ g, e = .returned (.pointer (some ⟨g, 0, none⟩)) ∧ w.heap.size ≤ g ∧ Tk w' g 0 0 l ∧ Below w.heap.size w w'
set_option maxHeartbeats 1000000 in
theorem take_any (A : Option Addr) (c : Nat) (l : List UInt8) (w : World) (hl : SeesB w A l) (hlen : l.length ≤ 140737488355328) :
    Calls Tryd.prog 47 #[.slice A l.length c] w (TakePost w l) := by
  go_enter Tryd.func47, Tryd.ntmps47
  go_wp2_with fail
  refine (clone_any A c l _ hl hlen).mono ?_
  rintro e w1 ⟨v, rfl, hv⟩
  obtain ⟨A1, c1, rfl, hs, hA, ho, hb⟩ := hv.parts
  go_wp2_with fail
  go_ret
  refine ⟨w1.heap.size, rfl, hb.size, ⟨A1, c1, heap_alloc_new _ _, SeesB.below hs ((Below.refl _ w1).alloc (Nat.le_refl _) _), (own_cap ho).1, (own_cap ho).2, Nat.zero_le _, fun a ha => ?_⟩, hb.alloc hb.size _⟩
  have := (hA a ha).2
  omega
/-- what a taker that is fine gives of the next n bytes -/
def tnext (p : Nat) (l : List UInt8) (n : Nat) : (Int × Nat) × List UInt8 := if l.length - p < n then ((10, p), []) else ((0, p + n), (l.drop p).take n)
def NextPost (w : World) (g : Nat) (l : List UInt8) (r : (Int × Nat) × List UInt8) (e : Ending) (w' : World) : Prop :=
  ∃ (A : Option Addr) (c : Nat), e = .returned (.slice A r.2.length c) ∧ SeesB w' A r.2 ∧ r.2.length ≤ c ∧ c ≤ maxLen ∧ Tk w' g r.1.1 r.1.2 l ∧ But (Only g) w w'
set_option maxHeartbeats 1000000 in
theorem tnext_any (g : Nat) (p n : Nat) (l : List UInt8) (w : World) (h : Tk w g 0 p l) (hlen : l.length ≤ 140737488355328) (hn : n ≤ 9223372036854775807) :
    Calls Tryd.prog 71 #[.pointer (some ⟨g, 0, none⟩), .int .i64 (n : Int)] w (NextPost w g l (tnext p l n)) := by
  obtain ⟨A, c, hc0, hc1, hc2, hs, h1, h2, h3, hf⟩ := h.cells
  have hf0 := hf 0
  have hf2 := hf 2
  by_cases hlt : l.length - p < n
  · rw [tnext, if_pos hlt]
    have d1 : decide ((l.length : Int) - p < n) = true := by simp; omega
    go_enter Tryd.func71, Tryd.ntmps71
    go_wp2_with fail
    go_quiet (fail)
    go_wp2_with fail
    have hdr : Below w.heap.size w (w.drewN nq) := ⟨rfl, rfl, rfl, Nat.le_refl _, fun _ _ => rfl⟩
    refine (fail_ok g 10 (w.drewN nq) hc0 hf0).mono ?_
    rintro e w' ⟨rfl, rfl⟩
    go_wp2_with fail
    have hT := (h.below hdr).setErr 10
    go_ret
    exact ⟨none, 0, rfl, Sees.nil _ _, Nat.le_refl _, by unfold maxLen; omega, hT.1, (But.of_below (R := Only g) hdr).trans hT.2 (fun n h => .inl h)⟩
  · rw [tnext, if_neg hlt]
    have d1 : decide ((n : Int) > (l.length : Int) - p) = false := by simp; omega
    have hw2 : wrap64 ((p : Int) + n) = ((p + n : Nat) : Int) := by unfold wrap64; unfold maxLen at h2; omega
    go_enter Tryd.func71, Tryd.ntmps71
    go_wp2_with fail
    go_quiet (fail)
    go_wp2_with fail
    have hdr : Below w.heap.size w (w.drewN nq) := ⟨rfl, rfl, rfl, Nat.le_refl _, fun _ _ => rfl⟩
    have hT := (h.below hdr).setAt (p + n) (by omega)
    rw [show ((p + n : Nat) : Int) = (p : Int) + n by omega] at hT
    generalize (w.drewN nq).setCell ⟨g, 2, none⟩ (.int .i64 ((p : Int) + n)) = w1 at *
    obtain ⟨hT1, hT2⟩ := hT
    clear hc0 hc1 hc2 hs hf hf0 hf2
    obtain ⟨A, c, hc0, hc1, hc2, hs, h1, h2, h3, hf⟩ := hT1.cells
    rw [show ((p + n : Nat) : Int) = (p : Int) + n by omega] at hc2
    have b0 : 0 ≤ (p : Int) := by omega
    have b1 : (p : Int) ≤ p + n := by omega
    have b2 : (p : Int) + n ≤ c := by omega
    go_quiet (fail)
    go_wp2_with fail
    · have hl2 : (l.drop p).take n = [] := by rw [List.drop_eq_nil_of_le (by omega), List.take_nil]
      have hn0 : n = 0 := by omega
      have hd1 : Below w1.heap.size w1 (w1.drewN nq) := ⟨rfl, rfl, rfl, Nat.le_refl _, fun _ _ => rfl⟩
      rw [hl2]
      refine bodyPost_ret (results_tmp rfl _ _ _) rfl ?_
      refine ⟨A, 0, ?_, Sees.nil _ _, Nat.le_refl _, by unfold maxLen; omega, hT1.below hd1, ((But.of_below (R := Only g) hdr).trans hT2 (fun n h => .inl h)).trans (But.of_below (R := fun _ => False) hd1) (fun n h => h.elim)⟩
      subst hn0; rfl
    · have hlen2 : ((l.drop p).take n).length = n := by simp; omega
      have hd1 : Below w1.heap.size w1 (w1.drewN nq) := ⟨rfl, rfl, rfl, Nat.le_refl _, fun _ _ => rfl⟩
      have hf : NextPost w g l ((0, p + n), (l.drop p).take n) (.returned (.slice (A.map (·.add p)) n (c - p))) (w1.drewN nq) :=
        ⟨_, _, by rw [hlen2], SeesB.cutTo (SeesB.below hs hd1) p n, by rw [hlen2]; omega, by omega, hT1.below hd1, ((But.of_below (R := Only g) hdr).trans hT2 (fun n h => .inl h)).trans (But.of_below (R := fun _ => False) hd1) (fun n h => h.elim)⟩
      go_ret
      exact hf
end Go.Proofs.YtlcbfikmljmlpaaDoor
/- A taker's number. -/
namespace Go.Proofs.YtlcbfikmljmlpaaDoor
set_option linter.unusedVariables false
open Go.RowKit
/-- a number of its bytes, the lowest first -/
def valLE (l : List UInt8) : Nat := l.foldr (fun b v => b.toNat + 256 * v) 0
theorem valLE_snoc (l : List UInt8) (b : UInt8) : valLE (l ++ [b]) = valLE l + b.toNat * 256 ^ l.length := by
  induction l with
  | nil => simp [valLE]
  | cons x l ih =>
    have e1 : valLE (x :: l ++ [b]) = x.toNat + 256 * valLE (l ++ [b]) := rfl
    have e2 : valLE (x :: l) = x.toNat + 256 * valLE l := rfl
    rw [e1, ih, e2, List.length_cons, Nat.pow_succ, Nat.mul_add, ← Nat.mul_assoc, Nat.add_assoc]
    congr 2
    rw [Nat.mul_comm 256, Nat.mul_assoc, Nat.mul_comm 256]
theorem valLE_lt (l : List UInt8) : valLE l < 256 ^ l.length := by
  induction l with
  | nil => simp [valLE]
  | cons x l ih =>
    have e2 : valLE (x :: l) = x.toNat + 256 * valLE l := rfl
    have := x.toNat_lt
    rw [e2, List.length_cons, Nat.pow_succ]
    omega
/-- what a taker that is fine gives of a field of n bytes -/
def takeU (s : Int × Nat) (l : List UInt8) (n : Int) : (Int × Nat) × List UInt8 :=
  if s.1 ≠ 0 then (s, []) else if n < 1 ∨ 8 < n then ((1, s.2), []) else tnext s.2 l n.toNat
def UPost (w : World) (g : Nat) (l : List UInt8) (r : (Int × Nat) × List UInt8) (e : Ending) (w' : World) : Prop :=
  e = .returned (.int .u64 (valLE r.2 : Nat)) ∧ Tk w' g r.1.1 r.1.2 l ∧ But (Only g) w w'
theorem or_add (v : Nat) (b : UInt8) (k : Nat) (hk : k < 8) (hv : v < 256 ^ k) : bits .or .u64 (v : Int) (IntKind.u64.wrap ((b.toNat : Int) * 2 ^ (8 * k))) = ((v + b.toNat * 256 ^ k : Nat) : Int) := by
  have hb := b.toNat_lt
  have hp : (2 : Nat) ^ (8 * k) = 256 ^ k := by rw [Nat.pow_mul]
  have h8 : 256 ^ k ≤ 256 ^ 7 := Nat.pow_le_pow_right (by omega) (by omega)
  have hm : b.toNat * 256 ^ k < 18446744073709551616 := by
    have := Nat.mul_le_mul (show b.toNat ≤ 255 by omega) h8
    omega
  have hw : IntKind.u64.wrap ((b.toNat : Int) * 2 ^ (8 * k)) = ((b.toNat * 2 ^ (8 * k) : Nat) : Int) := by
    rw [IntKind.wrap_u64, show (b.toNat : Int) * 2 ^ (8 * k) = ((b.toNat * 2 ^ (8 * k) : Nat) : Int) by push_cast; rfl, hp]
    omega
  have ho : v ||| b.toNat * 2 ^ (8 * k) = v + b.toNat * 256 ^ k := by
    rw [Nat.or_comm, Nat.mul_comm b.toNat, ← Nat.two_pow_add_eq_or_of_lt (by rw [hp]; exact hv), hp, Nat.mul_comm]; omega
  rw [hw, bits_or_u64_nat v _ (by omega) (by rw [hp]; exact hm), ho]
set_option maxHeartbeats 1000000 in
theorem takerU_any (g : Nat) (err : Int) (p : Nat) (n : Int) (l : List UInt8) (w : World) (h : Tk w g err p l) (hlen : l.length ≤ 140737488355328) :
    Calls Tryd.prog 49 #[.pointer (some ⟨g, 0, none⟩), .int .i64 n] w (UPost w g l (takeU (err, p) l n)) := by
  obtain ⟨A, c, hc0, hc1, hc2, hs, h1, h2, h3, hf⟩ := h.cells
  have hf0 := hf 0
  by_cases h0 : err = 0
  · subst h0
    by_cases hn : n < 1 ∨ 8 < n
    · rw [takeU, if_neg (by simp), if_pos hn]
      have hT := h.setErr 1
      go_enter Tryd.func49, Tryd.ntmps49
      go_wp2_with fail
      refine (tready_is g 0 true _ hc0 rfl).mono ?_
      rintro e w' ⟨rfl, rfl⟩
      go_wp2_with fail
      refine (may_no g n _ hc0 hf0 hn).mono ?_
      rintro e w' ⟨rfl, rfl⟩
      go_wp2_with fail
      go_ret
      exact ⟨rfl, hT.1, hT.2⟩
    · rw [takeU, if_neg (by simp), if_neg hn]
      obtain ⟨N, rfl⟩ := Int.eq_ofNat_of_zero_le (show 0 ≤ n by omega)
      have hN : 1 ≤ N ∧ N ≤ 8 := by omega
      rw [show ((N : Int)).toNat = N from rfl]
      have hr8 : (tnext p l N).2.length ≤ 8 := by
        unfold tnext; split
        · simp
        · simp; omega
      have hnx := tnext_any g p N l w h hlen (by omega)
      generalize tnext p l N = r at hr8 hnx
      go_enter Tryd.func49, Tryd.ntmps49
      go_wp2_with fail
      refine (tready_is g 0 true _ hc0 rfl).mono ?_
      rintro e w' ⟨rfl, rfl⟩
      go_wp2_with fail
      refine (may_yes g (N : Int) _ hc0 (by omega)).mono ?_
      rintro e w' ⟨rfl, rfl⟩
      go_wp2_with fail
      refine hnx.mono ?_
      rintro e w1 ⟨A1, c1, rfl, hs1, hc1', hc2', hT, hB⟩
      obtain ⟨m, hm⟩ : ∃ m, m = r.2.length := ⟨_, rfl⟩
      rw [← hm]
      go_wp2_with fail
      go_loop [5, 6, 7, 23] (fun v x y i => ∃ k : Nat, k ≤ r.2.length ∧ i = .int .i64 k ∧ v = .int .u64 (valLE (r.2.take k) : Nat)) (fun _ _ _ i => r.2.length - (intOf i).toNat)
      case atStart => exact ⟨0, by omega, rfl, rfl⟩
      case round =>
        obtain ⟨k, hk, rfl, rfl⟩ := hrel
        by_cases hlt : k < r.2.length
        · have hd : decide ((k : Int) < m) = true := by simp; omega
          obtain ⟨a, rfl, hc⟩ := hs1.at hlt
          have hbl := byte_lt r.2[k]
          go_wp2_with fail
          exact ⟨⟨k + 1, hlt, by go_num, by rw [or_add _ _ k (by omega) (by have := valLE_lt (r.2.take k); rwa [List.length_take, Nat.min_eq_left hk] at this), List.take_succ_eq_append_getElem hlt, valLE_snoc, List.length_take, Nat.min_eq_left hk]⟩, by simp [intOf]; omega⟩
        · obtain rfl : k = m := by omega
          have hd : decide ((k : Int) < k) = false := by simp
          have hfull : r.2.take k = r.2 := by rw [hm]; exact List.take_length
          rw [hfull]
          go_wp2_with fail
          go_ret
          exact ⟨rfl, hT, hB⟩
  · have d0 : (err == 0) = false := by simpa using h0
    rw [takeU, if_pos h0]
    go_enter Tryd.func49, Tryd.ntmps49
    go_wp2_with fail
    refine (tready_is g err false _ hc0 d0).mono ?_
    rintro e w' ⟨rfl, rfl⟩
    go_wp2_with fail
    go_ret
    exact ⟨rfl, h, But.refl _ _⟩
end Go.Proofs.YtlcbfikmljmlpaaDoor
