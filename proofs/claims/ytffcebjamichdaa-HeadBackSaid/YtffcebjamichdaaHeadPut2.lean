/- A head's bytes, by the program and by the reference. -/
import Derived.Test.YtffcebjamichdaaHeadPut
import Derived.Test.YtffcebjamichdaaHeadRight2
import Derived.Test.YtffcebjamichdaaRefBytes
import Derived.Test.YtffcebjamichdaaFieldOwn
import Derived.Test.YtffcebjamichdaaInts
namespace Go.Proofs.Ytffcebjamichdaa
set_option linter.unusedVariables false
open Go.RowKit
def PutPost (w : World) (l : List UInt8) (e : Ending) (w' : World) : Prop := ∃ v, e = .returned (.tuple #[v, .int .i64 0]) ∧ NewB w l v w'
set_option maxHeartbeats 1000000 in
theorem hPut_nil (k idx len stp bnd : Int) (lst : Bool) (lnk siz : Int) (w : World) :
    Calls Try.prog 10 #[.pointer none, .agg #[.int .i64 k, .int .i64 idx, .int .i64 len, .int .i64 stp, .int .i64 bnd, .bool lst, .int .u32 lnk, .int .i64 siz]] w fun e w' => e = .returned (.tuple #[.slice none 0 0, .int .i64 2]) ∧ Below w.heap.size w w' := by
  have hb : Below w.heap.size w (w.alloc (.cells #[.int .i64 k, .int .i64 idx, .int .i64 len, .int .i64 stp, .int .i64 bnd, .bool lst, .int .u32 lnk, .int .i64 siz] 24)) := (Below.refl _ w).alloc (Nat.le_refl _) _
  go_enter Try.func10, Try.ntmps10
  go_wp2_with fail
  go_ret2
  exact ⟨rfl, hb⟩
set_option maxHeartbeats 1000000 in
theorem hPut_bad (g : Nat) (k idx len stp bnd : Int) (lst : Bool) (lnk siz : Int) (w : World) (hr : rightH k idx len stp bnd lst lnk siz = false) :
    Calls Try.prog 10 #[.pointer (some ⟨g, 0, none⟩), .agg #[.int .i64 k, .int .i64 idx, .int .i64 len, .int .i64 stp, .int .i64 bnd, .bool lst, .int .u32 lnk, .int .i64 siz]] w fun e w' => e = .returned (.tuple #[.slice none 0 0, .int .i64 32]) ∧ Below w.heap.size w w' := by
  have hb : Below w.heap.size w (w.alloc (.cells #[.int .i64 k, .int .i64 idx, .int .i64 len, .int .i64 stp, .int .i64 bnd, .bool lst, .int .u32 lnk, .int .i64 siz] 24)) := (Below.refl _ w).alloc (Nat.le_refl _) _
  go_enter Try.func10, Try.ntmps10
  go_wp2_with fail
  refine (hright_any k idx len stp bnd lst lnk siz _).mono ?_
  rintro e w1 ⟨rfl, hb1⟩
  rw [hr]
  go_wp2_with fail
  go_ret2
  exact ⟨rfl, hb.trans (hb1.mono hb.size)⟩
theorem hput_all (t : Nat) (k idx len stp bnd lnk siz : Nat) (lst : Bool) (w : World) (ht : Tab w t) (hk : k < 256 ∧ idx < 4294967296 ∧ len < 4294967296 ∧ stp < 4294967296 ∧ bnd < 4294967296 ∧ lnk < 4294967296 ∧ siz < 4294967296) :
    Calls Try.prog 24 #[.pointer (some ⟨t, 0, none⟩), .agg #[.int .i64 (k : Int), .int .i64 (idx : Int), .int .i64 (len : Int), .int .i64 (stp : Int), .int .i64 (bnd : Int), .bool lst, .int .u32 (lnk : Int), .int .i64 (siz : Int)]] w (NewMk w (sealed (headHead k lst idx len stp bnd lnk siz))) := by
  cases lst with
  | false => exact hput_false t k idx len stp bnd lnk siz w ht hk
  | true => exact hput_true t k idx len stp bnd lnk siz w ht hk
set_option maxHeartbeats 1000000 in
theorem hPut_ok (t : Nat) (k idx len stp bnd lnk siz : Nat) (lst : Bool) (w : World) (ht : Tab w t) (hr : rightH k idx len stp bnd lst lnk siz = true) (hk : k < 256 ∧ idx < 4294967296 ∧ len < 4294967296 ∧ stp < 4294967296 ∧ bnd < 4294967296 ∧ lnk < 4294967296 ∧ siz < 4294967296) :
    Calls Try.prog 10 #[.pointer (some ⟨t, 0, none⟩), .agg #[.int .i64 (k : Int), .int .i64 (idx : Int), .int .i64 (len : Int), .int .i64 (stp : Int), .int .i64 (bnd : Int), .bool lst, .int .u32 (lnk : Int), .int .i64 (siz : Int)]] w (PutPost w (sealed (headHead k lst idx len stp bnd lnk siz))) := by
  have hb : Below w.heap.size w (w.alloc (.cells #[.int .i64 (k : Int), .int .i64 (idx : Int), .int .i64 (len : Int), .int .i64 (stp : Int), .int .i64 (bnd : Int), .bool lst, .int .u32 (lnk : Int), .int .i64 (siz : Int)] 24)) := (Below.refl _ w).alloc (Nat.le_refl _) _
  have hrow := heap_alloc_new w (.cells #[.int .i64 (k : Int), .int .i64 (idx : Int), .int .i64 (len : Int), .int .i64 (stp : Int), .int .i64 (bnd : Int), .bool lst, .int .u32 (lnk : Int), .int .i64 (siz : Int)] 24)
  have hll : (sealed (headHead k lst idx len stp bnd lnk siz)).length ≤ 140737488355328 := by rw [sealed_len, headHead_len]; omega
  have hput := hid (fun W (h : Tab W t) => hput_all t k idx len stp bnd lnk siz lst W h hk)
  generalize sealed (headHead k lst idx len stp bnd lnk siz) = L at *
  have htl := ht.lt
  go_enter Try.func10, Try.ntmps10
  go_wp2_with fail
  generalize w.alloc (.cells #[.int .i64 (k : Int), .int .i64 (idx : Int), .int .i64 (len : Int), .int .i64 (stp : Int), .int .i64 (bnd : Int), .bool lst, .int .u32 (lnk : Int), .int .i64 (siz : Int)] 24) = w0 at *
  have hlt0 : w.heap.size < w0.heap.size := (Array.getElem?_eq_some_iff.1 hrow).1
  refine (hright_any k idx len stp bnd lst lnk siz _).mono ?_
  rintro e w1 ⟨rfl, hb1⟩
  rw [hr]
  have hbw1 := hb.trans (hb1.mono hb.size)
  have hrow1 := (hb1.block w.heap.size hlt0).trans hrow
  have c0 : w1.cell? ⟨w.heap.size, 0, none⟩ = some (.int .i64 (k : Int)) := by rw [cell_of_row _ _ _ _ _ _ hrow1]; rfl
  have c1 : w1.cell? ⟨w.heap.size, 1, none⟩ = some (.int .i64 (idx : Int)) := by rw [cell_of_row _ _ _ _ _ _ hrow1]; rfl
  have c2 : w1.cell? ⟨w.heap.size, 2, none⟩ = some (.int .i64 (len : Int)) := by rw [cell_of_row _ _ _ _ _ _ hrow1]; rfl
  have c3 : w1.cell? ⟨w.heap.size, 3, none⟩ = some (.int .i64 (stp : Int)) := by rw [cell_of_row _ _ _ _ _ _ hrow1]; rfl
  have c4 : w1.cell? ⟨w.heap.size, 4, none⟩ = some (.int .i64 (bnd : Int)) := by rw [cell_of_row _ _ _ _ _ _ hrow1]; rfl
  have c5 : w1.cell? ⟨w.heap.size, 5, none⟩ = some (.bool lst) := by rw [cell_of_row _ _ _ _ _ _ hrow1]; rfl
  have c6 : w1.cell? ⟨w.heap.size, 6, none⟩ = some (.int .u32 (lnk : Int)) := by rw [cell_of_row _ _ _ _ _ _ hrow1]; rfl
  have c7 : w1.cell? ⟨w.heap.size, 7, none⟩ = some (.int .i64 (siz : Int)) := by rw [cell_of_row _ _ _ _ _ _ hrow1]; rfl
  clear hb hb1 hrow hrow1 hr hk
  go_wp2_with fail
  refine (hput.out w1 (ht.keep hbw1 htl)).mono ?_
  rintro e w2 ⟨g, R, rfl, hm, hR, hb2⟩
  have hbw2 := hbw1.trans (hb2.mono hbw1.size)
  clear c0 c1 c2 c3 c4 c5 c6 c7
  go_wp2_with fail
  refine (bytes_ok g R L w2 hm hll).mono ?_
  rintro e w3 ⟨v, rfl, hv⟩
  have hf : PutPost w L (.returned (.tuple #[v, .int .i64 0])) w3 := ⟨v, rfl, hv.lower hbw2⟩
  go_wp2_with fail
  go_ret2
  exact hf
def sixN (idx len stp bnd lnk siz : Nat) : List Nat := [idx, len, stp, bnd, lnk, siz]
theorem sixB_step (k : Nat) (lst : Bool) (idx len stp bnd lnk siz n : Nat) (h : n < (sixN idx len stp bnd lnk siz).length) : sixB k lst idx len stp bnd lnk siz (n + 1) = sixB k lst idx len stp bnd lnk siz n ++ bytesLE (sixN idx len stp bnd lnk siz)[n] 4 := by
  show headFour k lst ++ ((sixN idx len stp bnd lnk siz).take (n + 1)).flatMap _ = (headFour k lst ++ ((sixN idx len stp bnd lnk siz).take n).flatMap _) ++ _
  rw [List.take_succ_eq_append_getElem h, List.flatMap_append]
  simp
theorem sixB_len (k : Nat) (lst : Bool) (idx len stp bnd lnk siz n : Nat) (h : n ≤ 6) : (sixB k lst idx len stp bnd lnk siz n).length = 4 + 4 * n := by
  have : n = 0 ∨ n = 1 ∨ n = 2 ∨ n = 3 ∨ n = 4 ∨ n = 5 ∨ n = 6 := by omega
  rcases this with rfl | rfl | rfl | rfl | rfl | rfl | rfl <;> simp [sixB, headFour, bytesLE_length]
set_option maxHeartbeats 4000000 in
theorem rhput_false (k idx len stp bnd lnk siz : Nat) (w : World) (hk : k < 256 ∧ idx < 4294967296 ∧ len < 4294967296 ∧ stp < 4294967296 ∧ bnd < 4294967296 ∧ lnk < 4294967296 ∧ siz < 4294967296) :
    Calls Try.prog 17 #[.agg #[.int .i64 (k : Int), .int .i64 (idx : Int), .int .i64 (len : Int), .int .i64 (stp : Int), .int .i64 (bnd : Int), .bool false, .int .u32 (lnk : Int), .int .i64 (siz : Int)]] w (ClonePost w (sealed (headHead k false idx len stp bnd lnk siz))) := by
  have hsix : ∀ x ∈ sixN idx len stp bnd lnk siz, x < 4294967296 := by
    obtain ⟨_, h1, h2, h3, h4, h5, h6⟩ := hk
    intro x hx
    simp only [sixN, List.mem_cons, List.not_mem_nil, or_false] at hx
    omega
  have hk0 := hk.1
  have hk5 := hk.2.2.2.2.2.1
  clear hk
  have hb : Below w.heap.size w (w.alloc (.cells #[.int .i64 (k : Int), .int .i64 (idx : Int), .int .i64 (len : Int), .int .i64 (stp : Int), .int .i64 (bnd : Int), .bool false, .int .u32 (lnk : Int), .int .i64 (siz : Int)] 24)) := (Below.refl _ w).alloc (Nat.le_refl _) _
  have hrow := heap_alloc_new w (.cells #[.int .i64 (k : Int), .int .i64 (idx : Int), .int .i64 (len : Int), .int .i64 (stp : Int), .int .i64 (bnd : Int), .bool false, .int .u32 (lnk : Int), .int .i64 (siz : Int)] 24)
  have hsz0 : (w.alloc (.cells #[.int .i64 (k : Int), .int .i64 (idx : Int), .int .i64 (len : Int), .int .i64 (stp : Int), .int .i64 (bnd : Int), .bool false, .int .u32 (lnk : Int), .int .i64 (siz : Int)] 24)).heap.size = w.heap.size + 1 := by simp
  go_enter Try.func17, Try.ntmps17
  go_upto_region 4 with (fail)
  generalize w.alloc (.cells #[.int .i64 (k : Int), .int .i64 (idx : Int), .int .i64 (len : Int), .int .i64 (stp : Int), .int .i64 (bnd : Int), .bool false, .int .u32 (lnk : Int), .int .i64 (siz : Int)] 24) = w0 at *
  have hlt0 : w.heap.size < w0.heap.size := by omega
  have hlb0 : w.heap.size + 1 ≤ w0.heap.size := by omega
  clear hsz0
  have c0 : w0.cell? ⟨w.heap.size, 0, none⟩ = some (.int .i64 (k : Int)) := by rw [cell_of_row _ _ _ _ _ _ hrow]; rfl
  have hrow8 := heap_alloc_new w0 (.cells #[.int .u8 222, .int .u8 92, .int .u8 (k : Int), .int .u8 0] 5)
  have hb1 : Below w0.heap.size w0 (w0.alloc (.cells #[.int .u8 222, .int .u8 92, .int .u8 (k : Int), .int .u8 0] 5)) := (Below.refl _ w0).alloc (Nat.le_refl _) _
  have ho1 : (w0.alloc (.cells #[.int .u8 222, .int .u8 92, .int .u8 (k : Int), .int .u8 0] 5)).ownsRow (w.heap.size + 1) 5 1 (.slice (some ⟨w0.heap.size, 0, none⟩) 4 4) 4 ((sixB k false idx len stp bnd lnk siz 0).map byteV) :=
    ⟨rfl, .inr ⟨w0.heap.size, 4, _, rfl, hlb0, hrow8, Nat.le_refl _, by unfold maxLen; omega, rfl, by simp only [sixB, headFour, List.take_zero, List.flatMap_nil, List.append_nil, List.map_cons, List.map_nil, byteV_nat _ hk0]; rfl⟩⟩
  have hbw1 := hb.trans (hb1.mono hb.size)
  have hrow1 := (hb1.block w.heap.size hlt0).trans hrow
  have hlt1 : w.heap.size < (w0.alloc (.cells #[.int .u8 222, .int .u8 92, .int .u8 (k : Int), .int .u8 0] 5)).heap.size := Nat.lt_of_lt_of_le hlt0 hb1.size
  have hlw1 : w0.heap.size < (w0.alloc (.cells #[.int .u8 222, .int .u8 92, .int .u8 (k : Int), .int .u8 0] 5)).heap.size := (Array.getElem?_eq_some_iff.1 hrow8).1
  go_upto_region 5 with (fail)
  clear hrow8 hb1 hb hrow c0
  generalize w0.alloc (.cells #[.int .u8 222, .int .u8 92, .int .u8 (k : Int), .int .u8 0] 5) = w1 at *
  have c1 : w1.cell? ⟨w.heap.size, 1, none⟩ = some (.int .i64 (idx : Int)) := by rw [cell_of_row _ _ _ _ _ _ hrow1]; rfl
  have c2 : w1.cell? ⟨w.heap.size, 2, none⟩ = some (.int .i64 (len : Int)) := by rw [cell_of_row _ _ _ _ _ _ hrow1]; rfl
  have c3 : w1.cell? ⟨w.heap.size, 3, none⟩ = some (.int .i64 (stp : Int)) := by rw [cell_of_row _ _ _ _ _ _ hrow1]; rfl
  have c4 : w1.cell? ⟨w.heap.size, 4, none⟩ = some (.int .i64 (bnd : Int)) := by rw [cell_of_row _ _ _ _ _ _ hrow1]; rfl
  have c6 : w1.cell? ⟨w.heap.size, 6, none⟩ = some (.int .u32 (lnk : Int)) := by rw [cell_of_row _ _ _ _ _ _ hrow1]; rfl
  have c7 : w1.cell? ⟨w.heap.size, 7, none⟩ = some (.int .i64 (siz : Int)) := by rw [cell_of_row _ _ _ _ _ _ hrow1]; rfl
  have hb2 : Below w1.heap.size w1 (w1.alloc (.cells #[.int .i64 (idx : Int), .int .i64 (len : Int), .int .i64 (stp : Int), .int .i64 (bnd : Int), .int .i64 (lnk : Int), .int .i64 (siz : Int)] 3)) := (Below.refl _ w1).alloc (Nat.le_refl _) _
  have hsI : SeesI (w1.alloc (.cells #[.int .i64 (idx : Int), .int .i64 (len : Int), .int .i64 (stp : Int), .int .i64 (bnd : Int), .int .i64 (lnk : Int), .int .i64 (siz : Int)] 3)) (some ⟨w1.heap.size, 0, none⟩) ((sixN idx len stp bnd lnk siz).map fun (x : Nat) => (x : Int)) := Sees.of_block (heap_alloc_new w1 _) rfl
  have ho2 := own_but ho1 (But.of_below (R := fun _ => False) hb2) (fun _ _ h => h)
  have hbw2 := hbw1.trans (hb2.mono hbw1.size)
  have hlt2 : w.heap.size < (w1.alloc (.cells #[.int .i64 (idx : Int), .int .i64 (len : Int), .int .i64 (stp : Int), .int .i64 (bnd : Int), .int .i64 (lnk : Int), .int .i64 (siz : Int)] 3)).heap.size := Nat.lt_of_lt_of_le hlt1 hb2.size
  have hlw2 : w1.heap.size < (w1.alloc (.cells #[.int .i64 (idx : Int), .int .i64 (len : Int), .int .i64 (stp : Int), .int .i64 (bnd : Int), .int .i64 (lnk : Int), .int .i64 (siz : Int)] 3)).heap.size := by simp
  go_wp2_with fail
  clear hb2 ho1 hbw1 hrow1 c1 c2 c3 c4 c6 c7
  generalize w1.alloc (.cells #[.int .i64 (idx : Int), .int .i64 (len : Int), .int .i64 (stp : Int), .int .i64 (bnd : Int), .int .i64 (lnk : Int), .int .i64 (siz : Int)] 3) = w2 at *
  have hno2 : ∀ g, (Value.slice (some ⟨w0.heap.size, 0, none⟩) 4 4).ownBlock = some g → g ≠ w1.heap.size := fun g hg => by
    have : w0.heap.size = g := by simpa [Value.ownBlock] using hg
    omega
  generalize hAI : (⟨w1.heap.size, 0, none⟩ : Addr) = aI at *
  have hblk : aI.block = w1.heap.size := by rw [← hAI]
  clear hAI
  go_loopw [4, 6] (fun x i wr => ∃ n N : Nat, n ≤ 6 ∧ i = .int .i64 n ∧ N = 4 + 4 * n ∧ wr.ownsRow (w.heap.size + 1) 5 1 x N ((sixB k false idx len stp bnd lnk siz n).map byteV) ∧ (∀ g, x.ownBlock = some g → g ≠ w1.heap.size) ∧ Below w.heap.size w wr ∧ w.heap.size < wr.heap.size ∧ w1.heap.size < wr.heap.size ∧ SeesI wr (some aI) ((sixN idx len stp bnd lnk siz).map fun (x : Nat) => (x : Int))) (fun _ i _ => 6 - (intOf i).toNat)
  case atStart => exact ⟨0, 4, by omega, rfl, rfl, ho2, hno2, hbw2, hlt2, hlw2, hsI⟩
  case round =>
    clear ho2 hbw2 hlt2 hlw2 hsI hno2
    obtain ⟨n, N, hn, rfl, hN, hown, hno, hbw, hlt', hlw', hsI⟩ := hrel
    have HN := hid hN
    clear hN
    by_cases hlt : n < 6
    · have hd : decide ((n : Int) < 6) = true := by simp; omega
      have hl6 : n < (sixN idx len stp bnd lnk siz).length := hlt
      have hca := hsI.at (i := n) (by simpa using hl6)
      obtain ⟨a, ha, ca⟩ := hca
      injection ha with ha
      subst ha
      rw [List.getElem_map] at ca
      have hp := hsix _ (List.getElem_mem hl6)
      have HPS := hid (sixB_step k false idx len stp bnd lnk siz n hl6)
      generalize (sixN idx len stp bnd lnk siz)[n] = p at *
      have f6 : (n : Int) < 6 := by omega
      go_wp2_with fail
      refine (rbytes_any p 4 wr (by omega) (by omega)).mono ?_
      rintro e wx ⟨v, rfl, hv⟩
      obtain ⟨A6, c6, rfl, hs6, hA6, ho6, hb6⟩ := hv.parts
      have hbwx := hbw.trans (hb6.mono hbw.size)
      have hltx := Nat.lt_of_lt_of_le hlt' hb6.size
      have hlwx := Nat.lt_of_lt_of_le hlw' hb6.size
      have hsIx := hsI.below hb6
      have hownx := own_but hown (But.of_below (R := fun _ => False) hb6) (fun _ _ h => h)
      obtain ⟨N2, hN2⟩ : ∃ N2, N2 = N + 4 := ⟨_, rfl⟩
      have HMl : Hid (N + (bytesLE p 4).length = N2) := hid (by rw [bytesLE_length, hN2])
      have HMv : Hid ((sixB k false idx len stp bnd lnk siz n).map byteV ++ (bytesLE p 4).map byteV = (sixB k false idx len stp bnd lnk siz (n + 1)).map byteV) := hid (by rw [← List.map_append, HPS.out])
      have HN2 := hid hN2
      clear hv ho6 hb6 hown hbw hN2 hsI ca hlt' hlw'
      go_wp2_with (at_builtin; refine wpList_app rfl (.tmp 34) (.tmp 40) _ rfl elB rfl hownx A6 (bytesLE p 4).length c6 rfl _ hs6 (by simp) (byte_one _) N2 HMl.out _ HMv.out (by rw [HN2.out, HN.out]; unfold maxLen; omega) (by rw [HN2.out, HN.out]; omega) hltx ?_; intro B6 d6 w6 hnew hgr hat hbel)
      refine ⟨⟨n + 1, N2, by omega, by go_num, by rw [HN2.out, HN.out]; omega, hnew, fun g hg => ?_, hbwx.trans (hbel.mono (Nat.le_succ _)), Nat.lt_of_lt_of_le hltx hbel.size, Nat.lt_of_lt_of_le hlwx hbel.size, Sees.grown hsIx hgr (fun a ha hh => ?_)⟩, by simp [intOf]; omega⟩
      · rcases hat with h | h
        · exact hno g (h.symm.trans hg)
        · rw [h] at hg
          injection hg with hg
          omega
      · injection ha with ha
        subst ha
        exact hno _ hh.symm hblk
    · have hn6 : n = 6 := by omega
      have hd : decide ((n : Int) < 6) = false := by simp; omega
      obtain ⟨L, hL⟩ : ∃ L, L = headHead k false idx len stp bnd lnk siz := ⟨_, rfl⟩
      rw [hn6, show sixB k false idx len stp bnd lnk siz 6 = headHead k false idx len stp bnd lnk siz from rfl, ← hL] at hown
      have HLl : Hid (L.length = 28) := hid (by rw [hL]; exact headHead_len _ _ _ _ _ _ _ _)
      have HL := hid hL
      obtain ⟨A5, c5', hx5, hs5, hA5⟩ := own_form hown
      subst hx5
      have hNL : N = L.length := by rw [HLl.out, HN.out, hn6]
      have HN6 := hid hn6
      clear hL hn6
      subst hNL
      have hsB : SeesB wr A5 L := hs5
      go_wp2_with fail
      have hsr := sumI_range L
      obtain ⟨S, hS⟩ := Int.eq_ofNat_of_zero_le hsr.1
      refine (rsum_any A5 c5' L wr hsB (by rw [HLl.out]; omega)).mono ?_
      rintro e w6 ⟨rfl, rfl⟩
      have HSE : Hid (sealed (headHead k false idx len stp bnd lnk siz) = L ++ bytesLE S 4) := hid (by rw [← HL.out]; unfold sealed; rw [hS]; rfl)
      rw [hS] at hsr ⊢
      have hS4 : S < 4294967296 := by omega
      clear hS
      go_wp2_with fail
      refine (rbytes_any S 4 wr (by omega) (by omega)).mono ?_
      rintro e w7 ⟨v, rfl, hv⟩
      obtain ⟨A7, c7, rfl, hs7, hA7, ho7, hb7⟩ := hv.parts
      have hbw7 := hbw.trans (hb7.mono hbw.size)
      have hlt7 := Nat.lt_of_lt_of_le hlt' hb7.size
      have hown7 := own_but hown (But.of_below (R := fun _ => False) hb7) (fun _ _ h => h)
      obtain ⟨Z, hZ⟩ : ∃ Z, Z = L ++ bytesLE S 4 := ⟨_, rfl⟩
      have HZl : Hid (L.length + (bytesLE S 4).length = Z.length) := hid (by rw [hZ, List.length_append])
      have HZv : Hid (L.map byteV ++ (bytesLE S 4).map byteV = Z.map byteV) := hid (by rw [hZ, List.map_append])
      have HZ19 : Hid (Z.length = 32) := hid (by rw [← HZl.out, HLl.out, bytesLE_length])
      have HZ : Hid (sealed (headHead k false idx len stp bnd lnk siz) = Z) := hid (by rw [HSE.out, hZ])
      clear hZ HSE hown hv ho7 hb7 hA7 HL hs5 hA5 hsB hsI hno
      go_wp2_with (at_builtin; refine wpList_app rfl (.tmp 42) (.tmp 46) _ rfl elB rfl hown7 A7 (bytesLE S 4).length c7 rfl _ hs7 (by simp) (byte_one _) Z.length HZl.out (Z.map byteV) HZv.out (by rw [HZ19.out]; unfold maxLen; omega) (by rw [HZ19.out]; omega) hlt7 ?_; intro A8 c8 w8 hown8 hgr8 hat8 hbel8)
      have hf : ClonePost w (sealed (headHead k false idx len stp bnd lnk siz)) (.returned (.slice A8 Z.length c8)) w8 := ⟨_, rfl, A8, c8, by rw [HZ.out], by rw [HZ.out]; exact Joins.ownsRow_le hown8 (Nat.le_succ _), hbw7.trans (hbel8.mono (Nat.le_succ _))⟩
      go_ret
      exact hf
set_option maxHeartbeats 4000000 in
theorem rhput_true (k idx len stp bnd lnk siz : Nat) (w : World) (hk : k < 256 ∧ idx < 4294967296 ∧ len < 4294967296 ∧ stp < 4294967296 ∧ bnd < 4294967296 ∧ lnk < 4294967296 ∧ siz < 4294967296) :
    Calls Try.prog 17 #[.agg #[.int .i64 (k : Int), .int .i64 (idx : Int), .int .i64 (len : Int), .int .i64 (stp : Int), .int .i64 (bnd : Int), .bool true, .int .u32 (lnk : Int), .int .i64 (siz : Int)]] w (ClonePost w (sealed (headHead k true idx len stp bnd lnk siz))) := by
  have hsix : ∀ x ∈ sixN idx len stp bnd lnk siz, x < 4294967296 := by
    obtain ⟨_, h1, h2, h3, h4, h5, h6⟩ := hk
    intro x hx
    simp only [sixN, List.mem_cons, List.not_mem_nil, or_false] at hx
    omega
  have hk0 := hk.1
  have hk5 := hk.2.2.2.2.2.1
  clear hk
  have hb : Below w.heap.size w (w.alloc (.cells #[.int .i64 (k : Int), .int .i64 (idx : Int), .int .i64 (len : Int), .int .i64 (stp : Int), .int .i64 (bnd : Int), .bool true, .int .u32 (lnk : Int), .int .i64 (siz : Int)] 24)) := (Below.refl _ w).alloc (Nat.le_refl _) _
  have hrow := heap_alloc_new w (.cells #[.int .i64 (k : Int), .int .i64 (idx : Int), .int .i64 (len : Int), .int .i64 (stp : Int), .int .i64 (bnd : Int), .bool true, .int .u32 (lnk : Int), .int .i64 (siz : Int)] 24)
  have hsz0 : (w.alloc (.cells #[.int .i64 (k : Int), .int .i64 (idx : Int), .int .i64 (len : Int), .int .i64 (stp : Int), .int .i64 (bnd : Int), .bool true, .int .u32 (lnk : Int), .int .i64 (siz : Int)] 24)).heap.size = w.heap.size + 1 := by simp
  go_enter Try.func17, Try.ntmps17
  go_upto_region 4 with (fail)
  generalize w.alloc (.cells #[.int .i64 (k : Int), .int .i64 (idx : Int), .int .i64 (len : Int), .int .i64 (stp : Int), .int .i64 (bnd : Int), .bool true, .int .u32 (lnk : Int), .int .i64 (siz : Int)] 24) = w0 at *
  have hlt0 : w.heap.size < w0.heap.size := by omega
  have hlb0 : w.heap.size + 1 ≤ w0.heap.size := by omega
  clear hsz0
  have c0 : w0.cell? ⟨w.heap.size, 0, none⟩ = some (.int .i64 (k : Int)) := by rw [cell_of_row _ _ _ _ _ _ hrow]; rfl
  have hrow8 := heap_alloc_new w0 (.cells #[.int .u8 222, .int .u8 92, .int .u8 (k : Int), .int .u8 1] 5)
  have hb1 : Below w0.heap.size w0 (w0.alloc (.cells #[.int .u8 222, .int .u8 92, .int .u8 (k : Int), .int .u8 1] 5)) := (Below.refl _ w0).alloc (Nat.le_refl _) _
  have ho1 : (w0.alloc (.cells #[.int .u8 222, .int .u8 92, .int .u8 (k : Int), .int .u8 1] 5)).ownsRow (w.heap.size + 1) 5 1 (.slice (some ⟨w0.heap.size, 0, none⟩) 4 4) 4 ((sixB k true idx len stp bnd lnk siz 0).map byteV) :=
    ⟨rfl, .inr ⟨w0.heap.size, 4, _, rfl, hlb0, hrow8, Nat.le_refl _, by unfold maxLen; omega, rfl, by simp only [sixB, headFour, List.take_zero, List.flatMap_nil, List.append_nil, List.map_cons, List.map_nil, byteV_nat _ hk0]; rfl⟩⟩
  have hbw1 := hb.trans (hb1.mono hb.size)
  have hrow1 := (hb1.block w.heap.size hlt0).trans hrow
  have hlt1 : w.heap.size < (w0.alloc (.cells #[.int .u8 222, .int .u8 92, .int .u8 (k : Int), .int .u8 1] 5)).heap.size := Nat.lt_of_lt_of_le hlt0 hb1.size
  have hlw1 : w0.heap.size < (w0.alloc (.cells #[.int .u8 222, .int .u8 92, .int .u8 (k : Int), .int .u8 1] 5)).heap.size := (Array.getElem?_eq_some_iff.1 hrow8).1
  go_upto_region 5 with (fail)
  clear hrow8 hb1 hb hrow c0
  generalize w0.alloc (.cells #[.int .u8 222, .int .u8 92, .int .u8 (k : Int), .int .u8 1] 5) = w1 at *
  have c1 : w1.cell? ⟨w.heap.size, 1, none⟩ = some (.int .i64 (idx : Int)) := by rw [cell_of_row _ _ _ _ _ _ hrow1]; rfl
  have c2 : w1.cell? ⟨w.heap.size, 2, none⟩ = some (.int .i64 (len : Int)) := by rw [cell_of_row _ _ _ _ _ _ hrow1]; rfl
  have c3 : w1.cell? ⟨w.heap.size, 3, none⟩ = some (.int .i64 (stp : Int)) := by rw [cell_of_row _ _ _ _ _ _ hrow1]; rfl
  have c4 : w1.cell? ⟨w.heap.size, 4, none⟩ = some (.int .i64 (bnd : Int)) := by rw [cell_of_row _ _ _ _ _ _ hrow1]; rfl
  have c6 : w1.cell? ⟨w.heap.size, 6, none⟩ = some (.int .u32 (lnk : Int)) := by rw [cell_of_row _ _ _ _ _ _ hrow1]; rfl
  have c7 : w1.cell? ⟨w.heap.size, 7, none⟩ = some (.int .i64 (siz : Int)) := by rw [cell_of_row _ _ _ _ _ _ hrow1]; rfl
  have hb2 : Below w1.heap.size w1 (w1.alloc (.cells #[.int .i64 (idx : Int), .int .i64 (len : Int), .int .i64 (stp : Int), .int .i64 (bnd : Int), .int .i64 (lnk : Int), .int .i64 (siz : Int)] 3)) := (Below.refl _ w1).alloc (Nat.le_refl _) _
  have hsI : SeesI (w1.alloc (.cells #[.int .i64 (idx : Int), .int .i64 (len : Int), .int .i64 (stp : Int), .int .i64 (bnd : Int), .int .i64 (lnk : Int), .int .i64 (siz : Int)] 3)) (some ⟨w1.heap.size, 0, none⟩) ((sixN idx len stp bnd lnk siz).map fun (x : Nat) => (x : Int)) := Sees.of_block (heap_alloc_new w1 _) rfl
  have ho2 := own_but ho1 (But.of_below (R := fun _ => False) hb2) (fun _ _ h => h)
  have hbw2 := hbw1.trans (hb2.mono hbw1.size)
  have hlt2 : w.heap.size < (w1.alloc (.cells #[.int .i64 (idx : Int), .int .i64 (len : Int), .int .i64 (stp : Int), .int .i64 (bnd : Int), .int .i64 (lnk : Int), .int .i64 (siz : Int)] 3)).heap.size := Nat.lt_of_lt_of_le hlt1 hb2.size
  have hlw2 : w1.heap.size < (w1.alloc (.cells #[.int .i64 (idx : Int), .int .i64 (len : Int), .int .i64 (stp : Int), .int .i64 (bnd : Int), .int .i64 (lnk : Int), .int .i64 (siz : Int)] 3)).heap.size := by simp
  go_wp2_with fail
  clear hb2 ho1 hbw1 hrow1 c1 c2 c3 c4 c6 c7
  generalize w1.alloc (.cells #[.int .i64 (idx : Int), .int .i64 (len : Int), .int .i64 (stp : Int), .int .i64 (bnd : Int), .int .i64 (lnk : Int), .int .i64 (siz : Int)] 3) = w2 at *
  have hno2 : ∀ g, (Value.slice (some ⟨w0.heap.size, 0, none⟩) 4 4).ownBlock = some g → g ≠ w1.heap.size := fun g hg => by
    have : w0.heap.size = g := by simpa [Value.ownBlock] using hg
    omega
  generalize hAI : (⟨w1.heap.size, 0, none⟩ : Addr) = aI at *
  have hblk : aI.block = w1.heap.size := by rw [← hAI]
  clear hAI
  go_loopw [4, 6] (fun x i wr => ∃ n N : Nat, n ≤ 6 ∧ i = .int .i64 n ∧ N = 4 + 4 * n ∧ wr.ownsRow (w.heap.size + 1) 5 1 x N ((sixB k true idx len stp bnd lnk siz n).map byteV) ∧ (∀ g, x.ownBlock = some g → g ≠ w1.heap.size) ∧ Below w.heap.size w wr ∧ w.heap.size < wr.heap.size ∧ w1.heap.size < wr.heap.size ∧ SeesI wr (some aI) ((sixN idx len stp bnd lnk siz).map fun (x : Nat) => (x : Int))) (fun _ i _ => 6 - (intOf i).toNat)
  case atStart => exact ⟨0, 4, by omega, rfl, rfl, ho2, hno2, hbw2, hlt2, hlw2, hsI⟩
  case round =>
    clear ho2 hbw2 hlt2 hlw2 hsI hno2
    obtain ⟨n, N, hn, rfl, hN, hown, hno, hbw, hlt', hlw', hsI⟩ := hrel
    have HN := hid hN
    clear hN
    by_cases hlt : n < 6
    · have hd : decide ((n : Int) < 6) = true := by simp; omega
      have hl6 : n < (sixN idx len stp bnd lnk siz).length := hlt
      have hca := hsI.at (i := n) (by simpa using hl6)
      obtain ⟨a, ha, ca⟩ := hca
      injection ha with ha
      subst ha
      rw [List.getElem_map] at ca
      have hp := hsix _ (List.getElem_mem hl6)
      have HPS := hid (sixB_step k true idx len stp bnd lnk siz n hl6)
      generalize (sixN idx len stp bnd lnk siz)[n] = p at *
      have f6 : (n : Int) < 6 := by omega
      go_wp2_with fail
      refine (rbytes_any p 4 wr (by omega) (by omega)).mono ?_
      rintro e wx ⟨v, rfl, hv⟩
      obtain ⟨A6, c6, rfl, hs6, hA6, ho6, hb6⟩ := hv.parts
      have hbwx := hbw.trans (hb6.mono hbw.size)
      have hltx := Nat.lt_of_lt_of_le hlt' hb6.size
      have hlwx := Nat.lt_of_lt_of_le hlw' hb6.size
      have hsIx := hsI.below hb6
      have hownx := own_but hown (But.of_below (R := fun _ => False) hb6) (fun _ _ h => h)
      obtain ⟨N2, hN2⟩ : ∃ N2, N2 = N + 4 := ⟨_, rfl⟩
      have HMl : Hid (N + (bytesLE p 4).length = N2) := hid (by rw [bytesLE_length, hN2])
      have HMv : Hid ((sixB k true idx len stp bnd lnk siz n).map byteV ++ (bytesLE p 4).map byteV = (sixB k true idx len stp bnd lnk siz (n + 1)).map byteV) := hid (by rw [← List.map_append, HPS.out])
      have HN2 := hid hN2
      clear hv ho6 hb6 hown hbw hN2 hsI ca hlt' hlw'
      go_wp2_with (at_builtin; refine wpList_app rfl (.tmp 34) (.tmp 40) _ rfl elB rfl hownx A6 (bytesLE p 4).length c6 rfl _ hs6 (by simp) (byte_one _) N2 HMl.out _ HMv.out (by rw [HN2.out, HN.out]; unfold maxLen; omega) (by rw [HN2.out, HN.out]; omega) hltx ?_; intro B6 d6 w6 hnew hgr hat hbel)
      refine ⟨⟨n + 1, N2, by omega, by go_num, by rw [HN2.out, HN.out]; omega, hnew, fun g hg => ?_, hbwx.trans (hbel.mono (Nat.le_succ _)), Nat.lt_of_lt_of_le hltx hbel.size, Nat.lt_of_lt_of_le hlwx hbel.size, Sees.grown hsIx hgr (fun a ha hh => ?_)⟩, by simp [intOf]; omega⟩
      · rcases hat with h | h
        · exact hno g (h.symm.trans hg)
        · rw [h] at hg
          injection hg with hg
          omega
      · injection ha with ha
        subst ha
        exact hno _ hh.symm hblk
    · have hn6 : n = 6 := by omega
      have hd : decide ((n : Int) < 6) = false := by simp; omega
      obtain ⟨L, hL⟩ : ∃ L, L = headHead k true idx len stp bnd lnk siz := ⟨_, rfl⟩
      rw [hn6, show sixB k true idx len stp bnd lnk siz 6 = headHead k true idx len stp bnd lnk siz from rfl, ← hL] at hown
      have HLl : Hid (L.length = 28) := hid (by rw [hL]; exact headHead_len _ _ _ _ _ _ _ _)
      have HL := hid hL
      obtain ⟨A5, c5', hx5, hs5, hA5⟩ := own_form hown
      subst hx5
      have hNL : N = L.length := by rw [HLl.out, HN.out, hn6]
      have HN6 := hid hn6
      clear hL hn6
      subst hNL
      have hsB : SeesB wr A5 L := hs5
      go_wp2_with fail
      have hsr := sumI_range L
      obtain ⟨S, hS⟩ := Int.eq_ofNat_of_zero_le hsr.1
      refine (rsum_any A5 c5' L wr hsB (by rw [HLl.out]; omega)).mono ?_
      rintro e w6 ⟨rfl, rfl⟩
      have HSE : Hid (sealed (headHead k true idx len stp bnd lnk siz) = L ++ bytesLE S 4) := hid (by rw [← HL.out]; unfold sealed; rw [hS]; rfl)
      rw [hS] at hsr ⊢
      have hS4 : S < 4294967296 := by omega
      clear hS
      go_wp2_with fail
      refine (rbytes_any S 4 wr (by omega) (by omega)).mono ?_
      rintro e w7 ⟨v, rfl, hv⟩
      obtain ⟨A7, c7, rfl, hs7, hA7, ho7, hb7⟩ := hv.parts
      have hbw7 := hbw.trans (hb7.mono hbw.size)
      have hlt7 := Nat.lt_of_lt_of_le hlt' hb7.size
      have hown7 := own_but hown (But.of_below (R := fun _ => False) hb7) (fun _ _ h => h)
      obtain ⟨Z, hZ⟩ : ∃ Z, Z = L ++ bytesLE S 4 := ⟨_, rfl⟩
      have HZl : Hid (L.length + (bytesLE S 4).length = Z.length) := hid (by rw [hZ, List.length_append])
      have HZv : Hid (L.map byteV ++ (bytesLE S 4).map byteV = Z.map byteV) := hid (by rw [hZ, List.map_append])
      have HZ19 : Hid (Z.length = 32) := hid (by rw [← HZl.out, HLl.out, bytesLE_length])
      have HZ : Hid (sealed (headHead k true idx len stp bnd lnk siz) = Z) := hid (by rw [HSE.out, hZ])
      clear hZ HSE hown hv ho7 hb7 hA7 HL hs5 hA5 hsB hsI hno
      go_wp2_with (at_builtin; refine wpList_app rfl (.tmp 42) (.tmp 46) _ rfl elB rfl hown7 A7 (bytesLE S 4).length c7 rfl _ hs7 (by simp) (byte_one _) Z.length HZl.out (Z.map byteV) HZv.out (by rw [HZ19.out]; unfold maxLen; omega) (by rw [HZ19.out]; omega) hlt7 ?_; intro A8 c8 w8 hown8 hgr8 hat8 hbel8)
      have hf : ClonePost w (sealed (headHead k true idx len stp bnd lnk siz)) (.returned (.slice A8 Z.length c8)) w8 := ⟨_, rfl, A8, c8, by rw [HZ.out], by rw [HZ.out]; exact Joins.ownsRow_le hown8 (Nat.le_succ _), hbw7.trans (hbel8.mono (Nat.le_succ _))⟩
      go_ret
      exact hf
theorem rhput_any (k idx len stp bnd lnk siz : Nat) (lst : Bool) (w : World) (hk : k < 256 ∧ idx < 4294967296 ∧ len < 4294967296 ∧ stp < 4294967296 ∧ bnd < 4294967296 ∧ lnk < 4294967296 ∧ siz < 4294967296) :
    Calls Try.prog 17 #[.agg #[.int .i64 (k : Int), .int .i64 (idx : Int), .int .i64 (len : Int), .int .i64 (stp : Int), .int .i64 (bnd : Int), .bool lst, .int .u32 (lnk : Int), .int .i64 (siz : Int)]] w (ClonePost w (sealed (headHead k lst idx len stp bnd lnk siz))) := by
  cases lst with
  | false => exact rhput_false k idx len stp bnd lnk siz w hk
  | true => exact rhput_true k idx len stp bnd lnk siz w hk
end Go.Proofs.Ytffcebjamichdaa
