/- Tails compared: the reference's. -/
import Derived.Test.YtkmhmehofipehaaGreatDoorPz18
import Derived.Test.YtkmhmehofipehaaGreatDoorPz3
import Derived.Test.YtkmhmehofipehaaGreatDoorPz26
import Derived.Test.YtkmhmehofipehaaGreatDoorPz25
import Derived.Test.YtkmhmehofipehaaGreatDoorPz11
import Derived.Test.YtkmhmehofipehaaGreatDoorPz6
import Derived.Test.YtkmhmehofipehaaGreatDoorPz13
import Derived.Test.YtkmhmehofipehaaGreatDoorPz15
import Derived.Test.YtkmhmehofipehaaGreatDoorPz20
import Derived.Test.YtkmhmehofipehaaGreatDoorPz9
namespace Go.Proofs.YtkmhmehofipehaaGreatDoor
set_option linter.unusedVariables false
open Go.RowKit
def sameTl (count sum : Int) (l : List Int) (count' sum' : Int) (l' : List Int) : Bool := (count == count') && ((sum == sum') && decide (l = l'))
set_option maxHeartbeats 2000000 in
theorem rtsame_any (count sum : Int) (A : Option Addr) (c : Nat) (l : List Int) (count' sum' : Int) (A' : Option Addr) (c' : Nat) (l' : List Int) (w : World) (hl : SeesI w A l) (hl' : SeesI w A' l') (h1 : l.length ≤ maxLen) (h2 : l'.length ≤ maxLen) :
    Calls Tryz.prog 24 #[.agg #[.int .i64 count, .int .u32 sum, .slice A l.length c], .agg #[.int .i64 count', .int .u32 sum', .slice A' l'.length c']] w fun e w' => e = .returned (.bool (sameTl count sum l count' sum' l')) ∧ Below w.heap.size w w' := by
  have hb : Below w.heap.size w ((w.alloc (.cells #[.int .i64 count, .int .u32 sum, .slice A l.length c] 33)).alloc (.cells #[.int .i64 count', .int .u32 sum', .slice A' l'.length c'] 33)) := ((Below.refl _ w).alloc (Nat.le_refl _) _).alloc (by simp) _
  have hcall := hid (fun W (hW : Below w.heap.size w W) => rints_any A A' c c' l l' W (hl.below hW) (hl'.below hW) h1 h2)
  clear hl hl' h1 h2
  cases e1 : (count == count') with
  | false =>
    go_enter Tryz.func24, Tryz.ntmps24
    go_wp2_with fail
    go_ret
    exact ⟨ret_bool (by unfold sameTl; simp [e1]), hb⟩
  | true =>
  cases e2 : (sum == sum') with
  | false =>
    go_enter Tryz.func24, Tryz.ntmps24
    go_wp2_with fail
    go_ret
    exact ⟨ret_bool (by unfold sameTl; simp [e2]), hb⟩
  | true =>
    go_enter Tryz.func24, Tryz.ntmps24
    go_wp2_with fail
    refine (hcall.out _ hb).mono ?_
    rintro e w2 ⟨rfl, hb2⟩
    go_wp2_with fail
    go_ret
    exact ⟨ret_bool (by unfold sameTl; simp [e1, e2]), hb.trans (hb2.mono hb.size)⟩
end Go.Proofs.YtkmhmehofipehaaGreatDoor
/- Files compared by the reference: the same ones. -/
namespace Go.Proofs.YtkmhmehofipehaaGreatDoor
set_option linter.unusedVariables false
open Go.RowKit
set_option maxRecDepth 20000 in
set_option maxHeartbeats 8000000 in
theorem fsame_any (ik ich ibi ira ibl ish tc ts : Int) (At At2 : Option Addr) (l : List TagV) (ct ct2 : Nat) (Ak Ak2 : Option Addr) (ck ck2 : Nat) (L L2 : List BlkM) (Ax Ax2 : Option Addr) (cx cx2 : Nat) (tp : List Int) (w : World)
    (hT : SeesT w At l) (hT2 : SeesT w At2 l) (hlt : l.length ≤ maxLen) (hk : Sees w Ak (flatM L)) (hk2 : Sees w Ak2 (flatM L2)) (hpl : L.map BlkM.plain = L2.map BlkM.plain) (hpay : ∀ x ∈ L, SeesB w x.A x.p) (hpay2 : ∀ x ∈ L2, SeesB w x.A x.p)
    (hx : SeesI w Ax tp) (hx2 : SeesI w Ax2 tp) (hxl : tp.length ≤ maxLen) (hL : L.length ≤ 100000) :
    Calls Tryz.prog 8 #[.agg #[.int .i64 ik, .int .i64 ich, .int .i64 ibi, .int .i64 ira, .int .i64 ibl, .int .i64 ish, .slice At l.length ct, .slice Ak L.length ck, .int .i64 tc, .int .u32 ts, .slice Ax tp.length cx], .agg #[.int .i64 ik, .int .i64 ich, .int .i64 ibi, .int .i64 ira, .int .i64 ibl, .int .i64 ish, .slice At2 l.length ct2, .slice Ak2 L2.length ck2, .int .i64 tc, .int .u32 ts, .slice Ax2 tp.length cx2]] w fun e w' => e = .returned (.bool true) ∧ Below w.heap.size w w' := by
  have hlen : L2.length = L.length := by have := congrArg List.length hpl; simpa using this.symm
  rw [hlen]
  have hEq : ∀ W, (Op.equalIn 10000 27 (.agg #[.int .i64 ik, .int .i64 ich, .int .i64 ibi, .int .i64 ira, .int .i64 ibl, .int .i64 ish]) (.agg #[.int .i64 ik, .int .i64 ich, .int .i64 ibi, .int .i64 ira, .int .i64 ibl, .int .i64 ish])).run Tryz.prog W = .ok true W := fun W => by
    rw [eq_info ik ich ibi ira ibl ish ik ich ibi ira ibl ish W]
    unfold sameI sameF
    simp
  have hb1 : Below w.heap.size w ((w.alloc (.cells #[.int .i64 ik, .int .i64 ich, .int .i64 ibi, .int .i64 ira, .int .i64 ibl, .int .i64 ish, .slice At l.length ct, .slice Ak L.length ck, .int .i64 tc, .int .u32 ts, .slice Ax tp.length cx] 43)).alloc (.cells #[.int .i64 ik, .int .i64 ich, .int .i64 ibi, .int .i64 ira, .int .i64 ibl, .int .i64 ish, .slice At2 l.length ct2, .slice Ak2 L.length ck2, .int .i64 tc, .int .u32 ts, .slice Ax2 tp.length cx2] 43)) := ((Below.refl _ w).alloc (Nat.le_refl _) _).alloc (by simp) _
  have hs1 : (w.alloc (.cells #[.int .i64 ik, .int .i64 ich, .int .i64 ibi, .int .i64 ira, .int .i64 ibl, .int .i64 ish, .slice At l.length ct, .slice Ak L.length ck, .int .i64 tc, .int .u32 ts, .slice Ax tp.length cx] 43)).heap.size = w.heap.size + 1 := by simp
  have hg0 := heap_alloc_new w (.cells #[.int .i64 ik, .int .i64 ich, .int .i64 ibi, .int .i64 ira, .int .i64 ibl, .int .i64 ish, .slice At l.length ct, .slice Ak L.length ck, .int .i64 tc, .int .u32 ts, .slice Ax tp.length cx] 43)
  have hh0 := heap_alloc_new (w.alloc (.cells #[.int .i64 ik, .int .i64 ich, .int .i64 ibi, .int .i64 ira, .int .i64 ibl, .int .i64 ish, .slice At l.length ct, .slice Ak L.length ck, .int .i64 tc, .int .u32 ts, .slice Ax tp.length cx] 43)) (.cells #[.int .i64 ik, .int .i64 ich, .int .i64 ibi, .int .i64 ira, .int .i64 ibl, .int .i64 ish, .slice At2 l.length ct2, .slice Ak2 L.length ck2, .int .i64 tc, .int .u32 ts, .slice Ax2 tp.length cx2] 43)
  have hb2 : Below (w.alloc (.cells #[.int .i64 ik, .int .i64 ich, .int .i64 ibi, .int .i64 ira, .int .i64 ibl, .int .i64 ish, .slice At l.length ct, .slice Ak L.length ck, .int .i64 tc, .int .u32 ts, .slice Ax tp.length cx] 43)).heap.size (w.alloc (.cells #[.int .i64 ik, .int .i64 ich, .int .i64 ibi, .int .i64 ira, .int .i64 ibl, .int .i64 ish, .slice At l.length ct, .slice Ak L.length ck, .int .i64 tc, .int .u32 ts, .slice Ax tp.length cx] 43)) ((w.alloc (.cells #[.int .i64 ik, .int .i64 ich, .int .i64 ibi, .int .i64 ira, .int .i64 ibl, .int .i64 ish, .slice At l.length ct, .slice Ak L.length ck, .int .i64 tc, .int .u32 ts, .slice Ax tp.length cx] 43)).alloc (.cells #[.int .i64 ik, .int .i64 ich, .int .i64 ibi, .int .i64 ira, .int .i64 ibl, .int .i64 ish, .slice At2 l.length ct2, .slice Ak2 L.length ck2, .int .i64 tc, .int .u32 ts, .slice Ax2 tp.length cx2] 43)) := (Below.refl _ _).alloc (Nat.le_refl _) _
  have hg1 := (hb2.block w.heap.size (by omega)).trans hg0
  rw [hs1] at hh0
  clear hb2 hg0 hs1
  have HTG := hid (fun W (hb : Below w.heap.size w W) => rsameT_any At At2 ct ct2 l l W (hT.below hb) (hT2.below hb) hlt hlt)
  rw [sameT_refl] at HTG
  have HTL := hid (fun W (hb : Below w.heap.size w W) => rtsame_any tc ts Ax cx tp tc ts Ax2 cx2 tp W (hx.below hb) (hx2.below hb) hxl hxl)
  rw [show sameTl tc ts tp tc ts tp = true by unfold sameTl; simp] at HTL
  go_enter Tryz.func8, Tryz.ntmps8
  go_upto_region 1 with fail
  generalize (w.alloc (.cells #[.int .i64 ik, .int .i64 ich, .int .i64 ibi, .int .i64 ira, .int .i64 ibl, .int .i64 ish, .slice At l.length ct, .slice Ak L.length ck, .int .i64 tc, .int .u32 ts, .slice Ax tp.length cx] 43)).alloc (.cells #[.int .i64 ik, .int .i64 ich, .int .i64 ibi, .int .i64 ira, .int .i64 ibl, .int .i64 ish, .slice At2 l.length ct2, .slice Ak2 L.length ck2, .int .i64 tc, .int .u32 ts, .slice Ax2 tp.length cx2] 43) = w1 at *
  have q6 : w1.cell? ⟨w.heap.size, 6, none⟩ = some (.slice At l.length ct) := by rw [cell_of_row _ _ _ _ _ _ hg1]; rfl
  have r6 : w1.cell? ⟨w.heap.size + 1, 6, none⟩ = some (.slice At2 l.length ct2) := by rw [cell_of_row _ _ _ _ _ _ hh0]; rfl
  go_wp2_with first
    | (refine wpList_load_part rfl 27 (.tmp 8) rfl w.heap.size 0 rfl #[.int .i64 ik, .int .i64 ich, .int .i64 ibi, .int .i64 ira, .int .i64 ibl, .int .i64 ish] _ 43 _ (0, 0) hg1 rfl Tryz.underlying27 rfl (by kernel_rfl) ?_)
    | (refine wpList_load_part rfl 27 (.tmp 10) rfl (w.heap.size + 1) 0 rfl #[.int .i64 ik, .int .i64 ich, .int .i64 ibi, .int .i64 ira, .int .i64 ibl, .int .i64 ish] _ 43 _ (0, 0) hh0 rfl Tryz.underlying27 rfl (by kernel_rfl) ?_)
  refine (HTG.out w1 hb1).mono ?_
  rintro e w2 ⟨rfl, hb2⟩
  have hb12 := hb1.trans (hb2.mono hb1.size)
  have hg2 := (hb2.block w.heap.size (Array.getElem?_eq_some_iff.1 hg1).1).trans hg1
  have hh2 := (hb2.block (w.heap.size + 1) (Array.getElem?_eq_some_iff.1 hh0).1).trans hh0
  clear q6 r6 hb1 hb2 hg1 hh0 HTG hEq
  have q8 : w2.cell? ⟨w.heap.size, 8, none⟩ = some (.int .i64 tc) := by rw [cell_of_row _ _ _ _ _ _ hg2]; rfl
  have q9 : w2.cell? ⟨w.heap.size, 9, none⟩ = some (.int .u32 ts) := by rw [cell_of_row _ _ _ _ _ _ hg2]; rfl
  have q10 : w2.cell? ⟨w.heap.size, 10, none⟩ = some (.slice Ax tp.length cx) := by rw [cell_of_row _ _ _ _ _ _ hg2]; rfl
  have r8 : w2.cell? ⟨w.heap.size + 1, 8, none⟩ = some (.int .i64 tc) := by rw [cell_of_row _ _ _ _ _ _ hh2]; rfl
  have r9 : w2.cell? ⟨w.heap.size + 1, 9, none⟩ = some (.int .u32 ts) := by rw [cell_of_row _ _ _ _ _ _ hh2]; rfl
  have r10 : w2.cell? ⟨w.heap.size + 1, 10, none⟩ = some (.slice Ax2 tp.length cx2) := by rw [cell_of_row _ _ _ _ _ _ hh2]; rfl
  go_wp2_with fail
  refine (HTL.out w2 hb12).mono ?_
  rintro e w3 ⟨rfl, hb3⟩
  have hb13 := hb12.trans (hb3.mono hb12.size)
  have hg3 := (hb3.block w.heap.size (Array.getElem?_eq_some_iff.1 hg2).1).trans hg2
  have hh3 := (hb3.block (w.heap.size + 1) (Array.getElem?_eq_some_iff.1 hh2).1).trans hh2
  have q7 : w3.cell? ⟨w.heap.size, 7, none⟩ = some (.slice Ak L.length ck) := by rw [cell_of_row _ _ _ _ _ _ hg3]; rfl
  have r7 : w3.cell? ⟨w.heap.size + 1, 7, none⟩ = some (.slice Ak2 L.length ck2) := by rw [cell_of_row _ _ _ _ _ _ hh3]; rfl
  have hkk := hk.below hb13
  have hkk2 := hk2.below hb13
  have hpp : ∀ x ∈ L, SeesB w3 x.A x.p := fun x hx => (hpay x hx).below hb13
  have hpp2 : ∀ x ∈ L2, SeesB w3 x.A x.p := fun x hx => (hpay2 x hx).below hb13
  have dLL : ((L.length : Int) != (L.length : Int)) = false := by simp
  have hB0 := Below.refl w3.heap.size w3
  clear q8 q9 q10 r8 r9 r10 hb12 hb3 hg2 hh2 hg3 hh3 HTL hk hk2 hpay hpay2 hx hx2 hT hT2
  go_wp2_with fail
  go_loopw [5, 6, 7] (fun x5 _ _ wr => ∃ n : Nat, n ≤ L.length ∧ x5 = .int .i64 (n : Int) ∧ Below w3.heap.size w3 wr) (fun x5 _ _ _ => L.length - (intOf x5).toNat)
  case atStart => exact ⟨0, by omega, rfl, hB0⟩
  case round =>
    obtain ⟨n, hn, rfl, hbw⟩ := hrel
    have c7 := keep1 hbw q7
    have d7 := keep1 hbw r7
    clear hB0
    by_cases hlt : n < L.length
    · have hni : (n : Int) < (L.length : Int) := by omega
      have dn : decide (n < L.length) = true := decide_eq_true hlt
      obtain ⟨x, hx⟩ : ∃ x, L[n]? = some x := ⟨_, List.getElem?_eq_getElem hlt⟩
      obtain ⟨y, hy⟩ : ∃ y, L2[n]? = some y := ⟨_, List.getElem?_eq_getElem (by omega)⟩
      have hxy : x.plain = y.plain := by
        have h1 : (L.map BlkM.plain)[n]? = some x.plain := by rw [List.getElem?_map, hx]; rfl
        have h2 : (L2.map BlkM.plain)[n]? = some y.plain := by rw [List.getElem?_map, hy]; rfl
        rw [hpl, h2] at h1
        injection h1 with h1
        exact h1.symm
      obtain ⟨ak, rfl, hcl⟩ := blk_cellsE hkk hx
      obtain ⟨ak2, rfl, hcl2⟩ := blk_cellsE hkk2 hy
      have hps := hpp x (List.mem_of_getElem? hx)
      have hps2 := hpp2 y (List.mem_of_getElem? hy)
      obtain ⟨⟨zk, zidx, zlen, zstp, zbnd, zlst, zlnk, zsiz⟩, A, c, p, sm, at_⟩ := x
      obtain ⟨h2, A2, c2, p2, sm2, at2⟩ := y
      simp only [BlkM.plain, BlkP.mk.injEq] at hxy
      obtain ⟨rfl, rfl, rfl, rfl⟩ := hxy
      have hEqH : ∀ W, (Op.equalIn 10000 67 (.agg #[.int .i64 zk, .int .i64 zidx, .int .i64 zlen, .int .i64 zstp, .int .i64 zbnd, .bool zlst, .int .u32 zlnk, .int .i64 zsiz]) (.agg #[.int .i64 zk, .int .i64 zidx, .int .i64 zlen, .int .i64 zstp, .int .i64 zbnd, .bool zlst, .int .u32 zlnk, .int .i64 zsiz])).run Tryz.prog W = .ok true W := fun W => eq_head zk zidx zlen zstp zbnd zlst zlnk zsiz W
      have HCL := hid hcl
      have HCL2 := hid hcl2
      have HPS := hid hps
      have HPS2 := hid hps2
      simp only at hps hps2
      have HEQH := hid hEqH
      have HPP := hid hpp
      have HPP2 := hid hpp2
      clear hcl hcl2 hx hy hkk hkk2 hps hps2 hpp hpp2 hEqH hpl
      go_wp2_with fail
      clear c7 d7
      refine wp_region_held_drew (S := fun W => Below w3.heap.size w3 W) (by kernel_rfl) (show Below w3.heap.size w3 wr.drew from hbw.drew) (fun hHeld => ?_)
      replace hbw : Below w3.heap.size w3 wr.drew := hbw.drew
      generalize wr.drew = w5 at *
      refine wpAnyH_takeD (i := 0) (d := some 45) (v := ?v100) rfl rfl (by kernel_rfl) (by kernel_rfl) (by kernel_rfl) (fun _ _ _ h => h) (Or.inl ⟨by rfl, ?hy100⟩) hHeld ?rest100
      case hy100 =>
        intro wS hS
        go_simp
        all_goals with_reducible rfl
      (try simp only [Act.put, List.setIfInBounds_toArray, List.set_cons_zero, List.set_cons_succ])
      refine wpAnyH_takeD (i := 1) (d := some 46) (v := ?v101) rfl rfl (by kernel_rfl) (by kernel_rfl) (by kernel_rfl) (fun _ _ _ h => h) (Or.inl ⟨by rfl, ?hy101⟩) hHeld ?rest101
      case hy101 =>
        intro wS hS
        have k7 := keep1 hS q7
        go_simp
        all_goals with_reducible rfl
      (try simp only [Act.put, List.setIfInBounds_toArray, List.set_cons_zero, List.set_cons_succ])
      refine wpAnyH_takeD (i := 2) (d := some 47) (v := ?v102) rfl rfl (by kernel_rfl) (by kernel_rfl) (by kernel_rfl) (fun _ _ _ h => h) (Or.inl ⟨by rfl, ?hy102⟩) hHeld ?rest102
      case hy102 =>
        intro wS hS
        go_simp
        all_goals with_reducible rfl
      (try simp only [Act.put, List.setIfInBounds_toArray, List.set_cons_zero, List.set_cons_succ])
      refine wpAnyH_takeD (i := 3) (d := some 48) (v := ?v103) rfl rfl (by kernel_rfl) (by kernel_rfl) (by kernel_rfl) (fun _ _ _ h => h) (Or.inl ⟨by rfl, ?hy103⟩) hHeld ?rest103
      case hy103 =>
        intro wS hS
        go_simp
        all_goals with_reducible rfl
      (try simp only [Act.put, List.setIfInBounds_toArray, List.set_cons_zero, List.set_cons_succ])
      refine wpAnyH_takeD (i := 4) (d := some 49) (v := .agg #[.int .i64 zk, .int .i64 zidx, .int .i64 zlen, .int .i64 zstp, .int .i64 zbnd, .bool zlst, .int .u32 zlnk, .int .i64 zsiz, .slice A p.length c, .int .u32 sm, .int .i64 (at_ : Int)]) rfl rfl (by kernel_rfl) (by kernel_rfl) (by kernel_rfl) (fun _ _ _ h => h) (Or.inl ⟨by rfl, ?hy104⟩) hHeld ?rest104
      case hy104 =>
        intro wS hS
        exact run_load_anyE 72 (.tmp 48) rfl (ak.add (n * 11)) (by rfl) #[.int .i64 zk, .int .i64 zidx, .int .i64 zlen, .int .i64 zstp, .int .i64 zbnd, .bool zlst, .int .u32 zlnk, .int .i64 zsiz, .slice A p.length c, .int .u32 sm, .int .i64 (at_ : Int)] _ (fun j v hv => keep1 hS (HCL.out j v hv)) Tryz.underlying72 rfl (by kernel_rfl)
      (try simp only [Act.put, List.setIfInBounds_toArray, List.set_cons_zero, List.set_cons_succ])
      refine wpAnyH_takeD (i := 5) (d := some 50) (v := ?v105) rfl rfl (by kernel_rfl) (by kernel_rfl) (by kernel_rfl) (fun _ _ _ h => h) (Or.inl ⟨by rfl, ?hy105⟩) hHeld ?rest105
      case hy105 =>
        intro wS hS
        go_simp
        all_goals with_reducible rfl
      (try simp only [Act.put, List.setIfInBounds_toArray, List.set_cons_zero, List.set_cons_succ])
      refine wpAnyH_takeD (i := 6) (d := some 51) (v := ?v106) rfl rfl (by kernel_rfl) (by kernel_rfl) (by kernel_rfl) (fun _ _ _ h => h) (Or.inl ⟨by rfl, ?hy106⟩) hHeld ?rest106
      case hy106 =>
        intro wS hS
        have k7 := keep1 hS r7
        go_simp
        all_goals with_reducible rfl
      (try simp only [Act.put, List.setIfInBounds_toArray, List.set_cons_zero, List.set_cons_succ])
      refine wpAnyH_takeD (i := 7) (d := some 52) (v := ?v107) rfl rfl (by kernel_rfl) (by kernel_rfl) (by kernel_rfl) (fun _ _ _ h => h) (Or.inl ⟨by rfl, ?hy107⟩) hHeld ?rest107
      case hy107 =>
        intro wS hS
        go_simp
        all_goals with_reducible rfl
      (try simp only [Act.put, List.setIfInBounds_toArray, List.set_cons_zero, List.set_cons_succ])
      refine wpAnyH_takeD (i := 8) (d := some 53) (v := ?v108) rfl rfl (by kernel_rfl) (by kernel_rfl) (by kernel_rfl) (fun _ _ _ h => h) (Or.inl ⟨by rfl, ?hy108⟩) hHeld ?rest108
      case hy108 =>
        intro wS hS
        go_simp
        all_goals with_reducible rfl
      (try simp only [Act.put, List.setIfInBounds_toArray, List.set_cons_zero, List.set_cons_succ])
      refine wpAnyH_takeD (i := 9) (d := some 54) (v := .agg #[.int .i64 zk, .int .i64 zidx, .int .i64 zlen, .int .i64 zstp, .int .i64 zbnd, .bool zlst, .int .u32 zlnk, .int .i64 zsiz, .slice A2 p.length c2, .int .u32 sm, .int .i64 (at_ : Int)]) rfl rfl (by kernel_rfl) (by kernel_rfl) (by kernel_rfl) (fun _ _ _ h => h) (Or.inl ⟨by rfl, ?hy109⟩) hHeld ?rest109
      case hy109 =>
        intro wS hS
        exact run_load_anyE 72 (.tmp 53) rfl (ak2.add (n * 11)) (by rfl) #[.int .i64 zk, .int .i64 zidx, .int .i64 zlen, .int .i64 zstp, .int .i64 zbnd, .bool zlst, .int .u32 zlnk, .int .i64 zsiz, .slice A2 p.length c2, .int .u32 sm, .int .i64 (at_ : Int)] _ (fun j v hv => keep1 hS (HCL2.out j v hv)) Tryz.underlying72 rfl (by kernel_rfl)
      (try simp only [Act.put, List.setIfInBounds_toArray, List.set_cons_zero, List.set_cons_succ])
      refine wpAnyH_ready (rs := [10, 11]) (by kernel_rfl) (by simp) (AllReadyH.cons rfl (fun K hK => ?_) (AllReadyH.cons rfl (fun K hK => ?_) AllReadyH.nil))
      · rw [if_pos (by rfl)]
        have hba : Below w5.heap.size w5 (w5.alloc (.cells #[.int .i64 0, .int .i64 0, .int .i64 0, .int .i64 0, .int .i64 0, .bool false, .int .u32 0, .int .i64 0, .slice none 0 0, .int .u32 0, .int .i64 0] 72)) := (Below.refl _ _).alloc (Nat.le_refl _) _
        have hra := heap_alloc_new w5 (.cells #[.int .i64 0, .int .i64 0, .int .i64 0, .int .i64 0, .int .i64 0, .bool false, .int .u32 0, .int .i64 0, .slice none 0 0, .int .u32 0, .int .i64 0] 72)
        have hpa : w5.heap.size < (w5.alloc (.cells #[.int .i64 0, .int .i64 0, .int .i64 0, .int .i64 0, .int .i64 0, .bool false, .int .u32 0, .int .i64 0, .slice none 0 0, .int .u32 0, .int .i64 0] 72)).heap.size := by simp
        have hw3a : w3.heap.size ≤ w5.heap.size := hbw.size
        have hbw6 : Below w3.heap.size w3 (w5.alloc (.cells #[.int .i64 0, .int .i64 0, .int .i64 0, .int .i64 0, .int .i64 0, .bool false, .int .u32 0, .int .i64 0, .slice none 0 0, .int .u32 0, .int .i64 0] 72)) := hbw.trans (hba.mono hbw.size)
        clear hba
        go_simp
        generalize w5.alloc (.cells #[.int .i64 0, .int .i64 0, .int .i64 0, .int .i64 0, .int .i64 0, .bool false, .int .u32 0, .int .i64 0, .slice none 0 0, .int .u32 0, .int .i64 0] 72) = w6 at *
        generalize w5.heap.size = pA at *
        refine hK.out _ _ hbw6 (fun hHeld => ?_)
        clear hK K
        (try simp only [Act.put, List.setIfInBounds_toArray, List.set_cons_zero, List.set_cons_succ])
        refine wpAnyH_ready (rs := [11]) (by kernel_rfl) (by simp) (AllReadyH.cons rfl (fun K hK => ?_) AllReadyH.nil)
        rw [if_pos (by rfl)]
        have hba : Below w6.heap.size w6 (w6.alloc (.cells #[.int .i64 0, .int .i64 0, .int .i64 0, .int .i64 0, .int .i64 0, .bool false, .int .u32 0, .int .i64 0, .slice none 0 0, .int .u32 0, .int .i64 0] 72)) := (Below.refl _ _).alloc (Nat.le_refl _) _
        have hrb := heap_alloc_new w6 (.cells #[.int .i64 0, .int .i64 0, .int .i64 0, .int .i64 0, .int .i64 0, .bool false, .int .u32 0, .int .i64 0, .slice none 0 0, .int .u32 0, .int .i64 0] 72)
        have hra2 := (hba.block pA hpa).trans hra
        have hw3b : w3.heap.size ≤ w6.heap.size := hbw6.size
        have hbw7 : Below w3.heap.size w3 (w6.alloc (.cells #[.int .i64 0, .int .i64 0, .int .i64 0, .int .i64 0, .int .i64 0, .bool false, .int .u32 0, .int .i64 0, .slice none 0 0, .int .u32 0, .int .i64 0] 72)) := hbw6.trans (hba.mono hbw6.size)
        clear hba hra hbw6
        go_simp
        generalize w6.alloc (.cells #[.int .i64 0, .int .i64 0, .int .i64 0, .int .i64 0, .int .i64 0, .bool false, .int .u32 0, .int .i64 0, .slice none 0 0, .int .u32 0, .int .i64 0] 72) = w7 at *
        generalize w6.heap.size = pB at *
        refine hK.out _ _ hbw7 (fun hHeld => ?_)
        clear hK K
        (try simp only [Act.put, List.setIfInBounds_toArray, List.set_cons_zero, List.set_cons_succ])
        refine wpAnyH_ready (rs := [12]) (by kernel_rfl) (by simp) (AllReadyH.cons rfl (fun K hK => ?_) AllReadyH.nil)
        rw [if_pos (by rfl)]
        refine wp_store_row 72 (.tmp 6) (.tmp 49) rfl rfl pA rfl #[.int .i64 zk, .int .i64 zidx, .int .i64 zlen, .int .i64 zstp, .int .i64 zbnd, .bool zlst, .int .u32 zlnk, .int .i64 zsiz, .slice A p.length c, .int .u32 sm, .int .i64 (at_ : Int)] rfl 72 #[.int .i64 0, .int .i64 0, .int .i64 0, .int .i64 0, .int .i64 0, .bool false, .int .u32 0, .int .i64 0, .slice none 0 0, .int .u32 0, .int .i64 0] hra2 (by kernel_rfl) rfl (by simp [Value.oneCell']) ?_
        have hr6a := setRow_heap _ pA _ #[.int .i64 zk, .int .i64 zidx, .int .i64 zlen, .int .i64 zstp, .int .i64 zbnd, .bool zlst, .int .u32 zlnk, .int .i64 zsiz, .slice A p.length c, .int .u32 sm, .int .i64 (at_ : Int)] _ _ hra2
        have hr7a := (setRow_other w7 pA pB #[.int .i64 zk, .int .i64 zidx, .int .i64 zlen, .int .i64 zstp, .int .i64 zbnd, .bool zlst, .int .u32 zlnk, .int .i64 zsiz, .slice A p.length c, .int .u32 sm, .int .i64 (at_ : Int)] (by omega)).trans hrb
        have hbw8 := below_setRow hbw7 (show w3.heap.size ≤ pA by omega) #[.int .i64 zk, .int .i64 zidx, .int .i64 zlen, .int .i64 zstp, .int .i64 zbnd, .bool zlst, .int .u32 zlnk, .int .i64 zsiz, .slice A p.length c, .int .u32 sm, .int .i64 (at_ : Int)]
        clear hra2 hrb hbw7
        refine hK.out _ _ hbw8 (fun hHeld => ?_)
        clear hK K
        (try simp only [Act.put, List.setIfInBounds_toArray, List.set_cons_zero, List.set_cons_succ])
        refine wpAnyH_ready (rs := [13]) (by kernel_rfl) (by simp) (AllReadyH.cons rfl (fun K hK => ?_) AllReadyH.nil)
        rw [if_pos (by rfl)]
        refine wp_store_row 72 (.tmp 7) (.tmp 54) rfl rfl pB rfl #[.int .i64 zk, .int .i64 zidx, .int .i64 zlen, .int .i64 zstp, .int .i64 zbnd, .bool zlst, .int .u32 zlnk, .int .i64 zsiz, .slice A2 p.length c2, .int .u32 sm, .int .i64 (at_ : Int)] rfl 72 #[.int .i64 0, .int .i64 0, .int .i64 0, .int .i64 0, .int .i64 0, .bool false, .int .u32 0, .int .i64 0, .slice none 0 0, .int .u32 0, .int .i64 0] hr7a (by kernel_rfl) rfl (by simp [Value.oneCell']) ?_
        have hr7 := setRow_heap _ pB _ #[.int .i64 zk, .int .i64 zidx, .int .i64 zlen, .int .i64 zstp, .int .i64 zbnd, .bool zlst, .int .u32 zlnk, .int .i64 zsiz, .slice A2 p.length c2, .int .u32 sm, .int .i64 (at_ : Int)] _ _ hr7a
        have hr6 := (setRow_other (w7.setRow pA #[.int .i64 zk, .int .i64 zidx, .int .i64 zlen, .int .i64 zstp, .int .i64 zbnd, .bool zlst, .int .u32 zlnk, .int .i64 zsiz, .slice A p.length c, .int .u32 sm, .int .i64 (at_ : Int)]) pB pA #[.int .i64 zk, .int .i64 zidx, .int .i64 zlen, .int .i64 zstp, .int .i64 zbnd, .bool zlst, .int .u32 zlnk, .int .i64 zsiz, .slice A2 p.length c2, .int .u32 sm, .int .i64 (at_ : Int)] (by omega)).trans hr6a
        have hbW := below_setRow hbw8 (show w3.heap.size ≤ pB by omega) #[.int .i64 zk, .int .i64 zidx, .int .i64 zlen, .int .i64 zstp, .int .i64 zbnd, .bool zlst, .int .u32 zlnk, .int .i64 zsiz, .slice A2 p.length c2, .int .u32 sm, .int .i64 (at_ : Int)]
        clear hr6a hr7a hbw8 hw3a hw3b hpa
        generalize (w7.setRow pA #[.int .i64 zk, .int .i64 zidx, .int .i64 zlen, .int .i64 zstp, .int .i64 zbnd, .bool zlst, .int .u32 zlnk, .int .i64 zsiz, .slice A p.length c, .int .u32 sm, .int .i64 (at_ : Int)]).setRow pB #[.int .i64 zk, .int .i64 zidx, .int .i64 zlen, .int .i64 zstp, .int .i64 zbnd, .bool zlst, .int .u32 zlnk, .int .i64 zsiz, .slice A2 p.length c2, .int .u32 sm, .int .i64 (at_ : Int)] = W9 at *
        generalize pA = p6 at *
        generalize pB = p7 at *
        refine hK.out _ _ hbW (fun hHeld => ?_)
        clear hK K
        (try simp only [Act.put, List.setIfInBounds_toArray, List.set_cons_zero, List.set_cons_succ])
        refine wpAnyH_done (by kernel_rfl) ?_ _
        clear hHeld
        obtain ⟨FF, hF⟩ : ∃ FF : ByteArray, FF = ⟨p.toArray⟩ := ⟨_, rfl⟩
        have hcv1 : (convert 22 9 (.slice A p.length c)).run Tryz.prog W9 = .ok (.string FF) W9 := by rw [hF]; exact conv_bs A c p W9 (SeesB.below HPS.out hbW)
        have hcv2 : (convert 22 9 (.slice A2 p.length c2)).run Tryz.prog W9 = .ok (.string FF) W9 := by rw [hF]; exact conv_bs A2 c2 p W9 (SeesB.below HPS2.out hbW)
        have hse : (FF.toList == FF.toList) = true := beq_self_eq_true _
        have u8 : W9.cell? ⟨p6, 8, none⟩ = some (.slice A p.length c) := by rw [cell_of_row _ _ _ _ _ _ hr6]; rfl
        have v8 : W9.cell? ⟨p7, 8, none⟩ = some (.slice A2 p.length c2) := by rw [cell_of_row _ _ _ _ _ _ hr7]; rfl
        have u9 : W9.cell? ⟨p6, 9, none⟩ = some (.int .u32 sm) := by rw [cell_of_row _ _ _ _ _ _ hr6]; rfl
        have v9 : W9.cell? ⟨p7, 9, none⟩ = some (.int .u32 sm) := by rw [cell_of_row _ _ _ _ _ _ hr7]; rfl
        have u10 : W9.cell? ⟨p6, 10, none⟩ = some (.int .i64 (at_ : Int)) := by rw [cell_of_row _ _ _ _ _ _ hr6]; rfl
        have v10 : W9.cell? ⟨p7, 10, none⟩ = some (.int .i64 (at_ : Int)) := by rw [cell_of_row _ _ _ _ _ _ hr7]; rfl
        have e9 : (sm != sm) = false := by simp
        have e10 : ((at_ : Int) != (at_ : Int)) = false := by simp
        have hEqH := HEQH.out
        clear hF
        go_wp2_with first
          | (refine wpList_load_part rfl 67 (.tmp 55) rfl p6 0 rfl #[.int .i64 zk, .int .i64 zidx, .int .i64 zlen, .int .i64 zstp, .int .i64 zbnd, .bool zlst, .int .u32 zlnk, .int .i64 zsiz] _ 72 _ (0, 0) hr6 rfl Tryz.underlying67 rfl (by kernel_rfl) ?_)
          | (refine wpList_load_part rfl 67 (.tmp 57) rfl p7 0 rfl #[.int .i64 zk, .int .i64 zidx, .int .i64 zlen, .int .i64 zstp, .int .i64 zbnd, .bool zlst, .int .u32 zlnk, .int .i64 zsiz] _ 72 _ (0, 0) hr7 rfl Tryz.underlying67 rfl (by kernel_rfl) ?_)
        refine ⟨⟨n + 1, hlt, by go_num, hbW⟩, by simp [intOf]; omega⟩
      · rw [if_pos (by rfl)]
        have hba : Below w5.heap.size w5 (w5.alloc (.cells #[.int .i64 0, .int .i64 0, .int .i64 0, .int .i64 0, .int .i64 0, .bool false, .int .u32 0, .int .i64 0, .slice none 0 0, .int .u32 0, .int .i64 0] 72)) := (Below.refl _ _).alloc (Nat.le_refl _) _
        have hra := heap_alloc_new w5 (.cells #[.int .i64 0, .int .i64 0, .int .i64 0, .int .i64 0, .int .i64 0, .bool false, .int .u32 0, .int .i64 0, .slice none 0 0, .int .u32 0, .int .i64 0] 72)
        have hpa : w5.heap.size < (w5.alloc (.cells #[.int .i64 0, .int .i64 0, .int .i64 0, .int .i64 0, .int .i64 0, .bool false, .int .u32 0, .int .i64 0, .slice none 0 0, .int .u32 0, .int .i64 0] 72)).heap.size := by simp
        have hw3a : w3.heap.size ≤ w5.heap.size := hbw.size
        have hbw6 : Below w3.heap.size w3 (w5.alloc (.cells #[.int .i64 0, .int .i64 0, .int .i64 0, .int .i64 0, .int .i64 0, .bool false, .int .u32 0, .int .i64 0, .slice none 0 0, .int .u32 0, .int .i64 0] 72)) := hbw.trans (hba.mono hbw.size)
        clear hba
        go_simp
        generalize w5.alloc (.cells #[.int .i64 0, .int .i64 0, .int .i64 0, .int .i64 0, .int .i64 0, .bool false, .int .u32 0, .int .i64 0, .slice none 0 0, .int .u32 0, .int .i64 0] 72) = w6 at *
        generalize w5.heap.size = pA at *
        refine hK.out _ _ hbw6 (fun hHeld => ?_)
        clear hK K
        (try simp only [Act.put, List.setIfInBounds_toArray, List.set_cons_zero, List.set_cons_succ])
        refine wpAnyH_ready (rs := [10]) (by kernel_rfl) (by simp) (AllReadyH.cons rfl (fun K hK => ?_) AllReadyH.nil)
        rw [if_pos (by rfl)]
        have hba : Below w6.heap.size w6 (w6.alloc (.cells #[.int .i64 0, .int .i64 0, .int .i64 0, .int .i64 0, .int .i64 0, .bool false, .int .u32 0, .int .i64 0, .slice none 0 0, .int .u32 0, .int .i64 0] 72)) := (Below.refl _ _).alloc (Nat.le_refl _) _
        have hrb := heap_alloc_new w6 (.cells #[.int .i64 0, .int .i64 0, .int .i64 0, .int .i64 0, .int .i64 0, .bool false, .int .u32 0, .int .i64 0, .slice none 0 0, .int .u32 0, .int .i64 0] 72)
        have hra2 := (hba.block pA hpa).trans hra
        have hw3b : w3.heap.size ≤ w6.heap.size := hbw6.size
        have hbw7 : Below w3.heap.size w3 (w6.alloc (.cells #[.int .i64 0, .int .i64 0, .int .i64 0, .int .i64 0, .int .i64 0, .bool false, .int .u32 0, .int .i64 0, .slice none 0 0, .int .u32 0, .int .i64 0] 72)) := hbw6.trans (hba.mono hbw6.size)
        clear hba hra hbw6
        go_simp
        generalize w6.alloc (.cells #[.int .i64 0, .int .i64 0, .int .i64 0, .int .i64 0, .int .i64 0, .bool false, .int .u32 0, .int .i64 0, .slice none 0 0, .int .u32 0, .int .i64 0] 72) = w7 at *
        generalize w6.heap.size = pB at *
        refine hK.out _ _ hbw7 (fun hHeld => ?_)
        clear hK K
        (try simp only [Act.put, List.setIfInBounds_toArray, List.set_cons_zero, List.set_cons_succ])
        refine wpAnyH_ready (rs := [12]) (by kernel_rfl) (by simp) (AllReadyH.cons rfl (fun K hK => ?_) AllReadyH.nil)
        rw [if_pos (by rfl)]
        refine wp_store_row 72 (.tmp 6) (.tmp 49) rfl rfl pB rfl #[.int .i64 zk, .int .i64 zidx, .int .i64 zlen, .int .i64 zstp, .int .i64 zbnd, .bool zlst, .int .u32 zlnk, .int .i64 zsiz, .slice A p.length c, .int .u32 sm, .int .i64 (at_ : Int)] rfl 72 #[.int .i64 0, .int .i64 0, .int .i64 0, .int .i64 0, .int .i64 0, .bool false, .int .u32 0, .int .i64 0, .slice none 0 0, .int .u32 0, .int .i64 0] hrb (by kernel_rfl) rfl (by simp [Value.oneCell']) ?_
        have hr6a := setRow_heap _ pB _ #[.int .i64 zk, .int .i64 zidx, .int .i64 zlen, .int .i64 zstp, .int .i64 zbnd, .bool zlst, .int .u32 zlnk, .int .i64 zsiz, .slice A p.length c, .int .u32 sm, .int .i64 (at_ : Int)] _ _ hrb
        have hr7a := (setRow_other w7 pB pA #[.int .i64 zk, .int .i64 zidx, .int .i64 zlen, .int .i64 zstp, .int .i64 zbnd, .bool zlst, .int .u32 zlnk, .int .i64 zsiz, .slice A p.length c, .int .u32 sm, .int .i64 (at_ : Int)] (by omega)).trans hra2
        have hbw8 := below_setRow hbw7 (show w3.heap.size ≤ pB by omega) #[.int .i64 zk, .int .i64 zidx, .int .i64 zlen, .int .i64 zstp, .int .i64 zbnd, .bool zlst, .int .u32 zlnk, .int .i64 zsiz, .slice A p.length c, .int .u32 sm, .int .i64 (at_ : Int)]
        clear hra2 hrb hbw7
        refine hK.out _ _ hbw8 (fun hHeld => ?_)
        clear hK K
        (try simp only [Act.put, List.setIfInBounds_toArray, List.set_cons_zero, List.set_cons_succ])
        refine wpAnyH_ready (rs := [13]) (by kernel_rfl) (by simp) (AllReadyH.cons rfl (fun K hK => ?_) AllReadyH.nil)
        rw [if_pos (by rfl)]
        refine wp_store_row 72 (.tmp 7) (.tmp 54) rfl rfl pA rfl #[.int .i64 zk, .int .i64 zidx, .int .i64 zlen, .int .i64 zstp, .int .i64 zbnd, .bool zlst, .int .u32 zlnk, .int .i64 zsiz, .slice A2 p.length c2, .int .u32 sm, .int .i64 (at_ : Int)] rfl 72 #[.int .i64 0, .int .i64 0, .int .i64 0, .int .i64 0, .int .i64 0, .bool false, .int .u32 0, .int .i64 0, .slice none 0 0, .int .u32 0, .int .i64 0] hr7a (by kernel_rfl) rfl (by simp [Value.oneCell']) ?_
        have hr7 := setRow_heap _ pA _ #[.int .i64 zk, .int .i64 zidx, .int .i64 zlen, .int .i64 zstp, .int .i64 zbnd, .bool zlst, .int .u32 zlnk, .int .i64 zsiz, .slice A2 p.length c2, .int .u32 sm, .int .i64 (at_ : Int)] _ _ hr7a
        have hr6 := (setRow_other (w7.setRow pB #[.int .i64 zk, .int .i64 zidx, .int .i64 zlen, .int .i64 zstp, .int .i64 zbnd, .bool zlst, .int .u32 zlnk, .int .i64 zsiz, .slice A p.length c, .int .u32 sm, .int .i64 (at_ : Int)]) pA pB #[.int .i64 zk, .int .i64 zidx, .int .i64 zlen, .int .i64 zstp, .int .i64 zbnd, .bool zlst, .int .u32 zlnk, .int .i64 zsiz, .slice A2 p.length c2, .int .u32 sm, .int .i64 (at_ : Int)] (by omega)).trans hr6a
        have hbW := below_setRow hbw8 (show w3.heap.size ≤ pA by omega) #[.int .i64 zk, .int .i64 zidx, .int .i64 zlen, .int .i64 zstp, .int .i64 zbnd, .bool zlst, .int .u32 zlnk, .int .i64 zsiz, .slice A2 p.length c2, .int .u32 sm, .int .i64 (at_ : Int)]
        clear hr6a hr7a hbw8 hw3a hw3b hpa
        generalize (w7.setRow pB #[.int .i64 zk, .int .i64 zidx, .int .i64 zlen, .int .i64 zstp, .int .i64 zbnd, .bool zlst, .int .u32 zlnk, .int .i64 zsiz, .slice A p.length c, .int .u32 sm, .int .i64 (at_ : Int)]).setRow pA #[.int .i64 zk, .int .i64 zidx, .int .i64 zlen, .int .i64 zstp, .int .i64 zbnd, .bool zlst, .int .u32 zlnk, .int .i64 zsiz, .slice A2 p.length c2, .int .u32 sm, .int .i64 (at_ : Int)] = W9 at *
        generalize pB = p6 at *
        generalize pA = p7 at *
        refine hK.out _ _ hbW (fun hHeld => ?_)
        clear hK K
        (try simp only [Act.put, List.setIfInBounds_toArray, List.set_cons_zero, List.set_cons_succ])
        refine wpAnyH_done (by kernel_rfl) ?_ _
        clear hHeld
        obtain ⟨FF, hF⟩ : ∃ FF : ByteArray, FF = ⟨p.toArray⟩ := ⟨_, rfl⟩
        have hcv1 : (convert 22 9 (.slice A p.length c)).run Tryz.prog W9 = .ok (.string FF) W9 := by rw [hF]; exact conv_bs A c p W9 (SeesB.below HPS.out hbW)
        have hcv2 : (convert 22 9 (.slice A2 p.length c2)).run Tryz.prog W9 = .ok (.string FF) W9 := by rw [hF]; exact conv_bs A2 c2 p W9 (SeesB.below HPS2.out hbW)
        have hse : (FF.toList == FF.toList) = true := beq_self_eq_true _
        have u8 : W9.cell? ⟨p6, 8, none⟩ = some (.slice A p.length c) := by rw [cell_of_row _ _ _ _ _ _ hr6]; rfl
        have v8 : W9.cell? ⟨p7, 8, none⟩ = some (.slice A2 p.length c2) := by rw [cell_of_row _ _ _ _ _ _ hr7]; rfl
        have u9 : W9.cell? ⟨p6, 9, none⟩ = some (.int .u32 sm) := by rw [cell_of_row _ _ _ _ _ _ hr6]; rfl
        have v9 : W9.cell? ⟨p7, 9, none⟩ = some (.int .u32 sm) := by rw [cell_of_row _ _ _ _ _ _ hr7]; rfl
        have u10 : W9.cell? ⟨p6, 10, none⟩ = some (.int .i64 (at_ : Int)) := by rw [cell_of_row _ _ _ _ _ _ hr6]; rfl
        have v10 : W9.cell? ⟨p7, 10, none⟩ = some (.int .i64 (at_ : Int)) := by rw [cell_of_row _ _ _ _ _ _ hr7]; rfl
        have e9 : (sm != sm) = false := by simp
        have e10 : ((at_ : Int) != (at_ : Int)) = false := by simp
        have hEqH := HEQH.out
        clear hF
        go_wp2_with first
          | (refine wpList_load_part rfl 67 (.tmp 55) rfl p6 0 rfl #[.int .i64 zk, .int .i64 zidx, .int .i64 zlen, .int .i64 zstp, .int .i64 zbnd, .bool zlst, .int .u32 zlnk, .int .i64 zsiz] _ 72 _ (0, 0) hr6 rfl Tryz.underlying67 rfl (by kernel_rfl) ?_)
          | (refine wpList_load_part rfl 67 (.tmp 57) rfl p7 0 rfl #[.int .i64 zk, .int .i64 zidx, .int .i64 zlen, .int .i64 zstp, .int .i64 zbnd, .bool zlst, .int .u32 zlnk, .int .i64 zsiz] _ 72 _ (0, 0) hr7 rfl Tryz.underlying67 rfl (by kernel_rfl) ?_)
        refine ⟨⟨n + 1, hlt, by go_num, hbW⟩, by simp [intOf]; omega⟩
    · obtain rfl : n = L.length := by omega
      have dn : decide (L.length < L.length) = false := by simp
      have hbX := hb13.trans (hbw.mono hb13.size)
      clear hkk hkk2 hpp hpp2
      go_wp2_with fail
      go_ret
      exact ⟨rfl, hbX⟩
end Go.Proofs.YtkmhmehofipehaaGreatDoor
/- How many samples a file's blocks have. -/
namespace Go.Proofs.YtkmhmehofipehaaGreatDoor
set_option linter.unusedVariables false
open Go.RowKit
def sumLen : List BlkP → Int
  | [] => 0
  | x :: l => x.h.len + sumLen l
theorem sumLen_app : ∀ l m : List BlkP, sumLen (l ++ m) = sumLen l + sumLen m
  | [], m => by simp [sumLen]
  | x :: l, m => by simp only [List.cons_append, sumLen, sumLen_app l m]; omega
theorem sumLen_bound : ∀ l : List BlkP, (∀ x ∈ l, 0 ≤ x.h.len ∧ x.h.len ≤ 65536) → 0 ≤ sumLen l ∧ sumLen l ≤ 65536 * l.length
  | [], _ => by simp [sumLen]
  | x :: l, h => by
    have h1 := h x (by simp)
    have h2 := sumLen_bound l (fun y hy => h y (by simp [hy]))
    simp only [sumLen, List.length_cons]
    omega
theorem sumLen_step {L : List BlkM} {n : Nat} {x : BlkM} (hx : L[n]? = some x) : sumLen ((L.take (n + 1)).map BlkM.plain) = sumLen ((L.take n).map BlkM.plain) + x.h.len := by
  obtain ⟨hn, rfl⟩ := List.getElem?_eq_some_iff.1 hx
  rw [List.take_succ_eq_append_getElem hn, List.map_append, sumLen_app]
  simp [sumLen, BlkM.plain]
set_option maxRecDepth 20000 in
set_option maxHeartbeats 4000000 in
theorem count_any (ik ich ibi ira ibl ish tc ts : Int) (At : Option Addr) (nt ct : Nat) (Ak : Option Addr) (ck : Nat) (Ax : Option Addr) (nx cx : Nat) (L : List BlkM) (w : World) (hk : Sees w Ak (flatM L)) (hL : L.length ≤ 100000) (hlen : ∀ x ∈ L.map BlkM.plain, 0 ≤ x.h.len ∧ x.h.len ≤ 65536) :
    Calls Tryz.prog 10 #[.agg #[.int .i64 ik, .int .i64 ich, .int .i64 ibi, .int .i64 ira, .int .i64 ibl, .int .i64 ish, .slice At nt ct, .slice Ak L.length ck, .int .i64 tc, .int .u32 ts, .slice Ax nx cx]] w fun e w' => e = .returned (.int .i64 (sumLen (L.map BlkM.plain))) ∧ Below w.heap.size w w' := by
  have hb0 : Below w.heap.size w (w.alloc (.cells #[.int .i64 ik, .int .i64 ich, .int .i64 ibi, .int .i64 ira, .int .i64 ibl, .int .i64 ish, .slice At nt ct, .slice Ak L.length ck, .int .i64 tc, .int .u32 ts, .slice Ax nx cx] 35)) := (Below.refl _ w).alloc (Nat.le_refl _) _
  have hg0 := heap_alloc_new w (.cells #[.int .i64 ik, .int .i64 ich, .int .i64 ibi, .int .i64 ira, .int .i64 ibl, .int .i64 ish, .slice At nt ct, .slice Ak L.length ck, .int .i64 tc, .int .u32 ts, .slice Ax nx cx] 35)
  have hk1 := hk.below hb0
  go_enter Tryz.func10, Tryz.ntmps10
  go_upto_region 2 with fail
  generalize w.alloc (.cells #[.int .i64 ik, .int .i64 ich, .int .i64 ibi, .int .i64 ira, .int .i64 ibl, .int .i64 ish, .slice At nt ct, .slice Ak L.length ck, .int .i64 tc, .int .u32 ts, .slice Ax nx cx] 35) = w1 at *
  have q7 : w1.cell? ⟨w.heap.size, 7, none⟩ = some (.slice Ak L.length ck) := by rw [cell_of_row _ _ _ _ _ _ hg0]; rfl
  have hB0 := Below.refl w1.heap.size w1
  clear hg0 hk
  go_wp2_with fail
  clear q7
  go_loopw [3, 5, 9] (fun x3 _ x9 wr => ∃ n : Nat, n ≤ L.length ∧ x3 = .int .i64 (sumLen ((L.take n).map BlkM.plain)) ∧ x9 = .int .i64 (n : Int) ∧ Below w1.heap.size w1 wr) (fun _ _ x9 _ => L.length - (intOf x9).toNat)
  case atStart => exact ⟨0, by omega, rfl, rfl, hB0⟩
  case round =>
    obtain ⟨n, hn, rfl, rfl, hbw⟩ := hrel
    clear hB0
    by_cases hlt : n < L.length
    · have hni : (n : Int) < (L.length : Int) := by omega
      have dn : decide (n < L.length) = true := decide_eq_true hlt
      obtain ⟨x, hx⟩ : ∃ x, L[n]? = some x := ⟨_, List.getElem?_eq_getElem hlt⟩
      obtain ⟨ak, rfl, hcl⟩ := blk_cellsE hk1 hx
      have hst := sumLen_step hx
      have hbd := (sumLen_bound ((L.take n).map BlkM.plain) (fun y hy => hlen y (by rw [List.map_take] at hy; exact List.mem_of_mem_take hy)))
      have hxl := hlen x.plain (List.mem_map_of_mem (List.mem_of_getElem? hx))
      rw [List.length_map, List.length_take] at hbd
      have hxl2 : 0 ≤ x.h.len ∧ x.h.len ≤ 65536 := hxl
      obtain ⟨S, hS⟩ : ∃ S, S = sumLen ((L.take n).map BlkM.plain) := ⟨_, rfl⟩
      rw [← hS] at hst hbd ⊢
      have HW := hid (show wrap64 (S + x.h.len) = S + x.h.len by unfold wrap64; omega)
      have HST := hid hst
      have HCL := hid (fun (j : Nat) (v : Value) (hv : (#[.int .i64 x.h.k, .int .i64 x.h.idx, .int .i64 x.h.len, .int .i64 x.h.stp, .int .i64 x.h.bnd, .bool x.h.lst, .int .u32 x.h.lnk, .int .i64 x.h.siz, .slice x.A x.p.length x.c, .int .u32 x.sum, .int .i64 (x.at_ : Int)] : Array Value).toList[j]? = some v) => keep1 hbw (hcl j v hv))
      have hba : Below wr.heap.size wr (wr.alloc (.cells #[.int .i64 x.h.k, .int .i64 x.h.idx, .int .i64 x.h.len, .int .i64 x.h.stp, .int .i64 x.h.bnd, .bool x.h.lst, .int .u32 x.h.lnk, .int .i64 x.h.siz, .slice x.A x.p.length x.c, .int .u32 x.sum, .int .i64 (x.at_ : Int)] 78)) := (Below.refl _ _).alloc (Nat.le_refl _) _
      have hga := heap_alloc_new wr (.cells #[.int .i64 x.h.k, .int .i64 x.h.idx, .int .i64 x.h.len, .int .i64 x.h.stp, .int .i64 x.h.bnd, .bool x.h.lst, .int .u32 x.h.lnk, .int .i64 x.h.siz, .slice x.A x.p.length x.c, .int .u32 x.sum, .int .i64 (x.at_ : Int)] 78)
      have a2 : (wr.alloc (.cells #[.int .i64 x.h.k, .int .i64 x.h.idx, .int .i64 x.h.len, .int .i64 x.h.stp, .int .i64 x.h.bnd, .bool x.h.lst, .int .u32 x.h.lnk, .int .i64 x.h.siz, .slice x.A x.p.length x.c, .int .u32 x.sum, .int .i64 (x.at_ : Int)] 78)).cell? ⟨wr.heap.size, 2, none⟩ = some (.int .i64 x.h.len) := by rw [cell_of_row _ _ _ _ _ _ hga]; rfl
      have hbw2 := hbw.trans (hba.mono hbw.size)
      clear hcl hx hst hbd hxl hxl2 hS hga hba hk1 hbw
      go_upto_region 5 with (refine wpList_load_anyE rfl 78 (.tmp 11) rfl (ak.add (n * 11)) rfl #[.int .i64 x.h.k, .int .i64 x.h.idx, .int .i64 x.h.len, .int .i64 x.h.stp, .int .i64 x.h.bnd, .bool x.h.lst, .int .u32 x.h.lnk, .int .i64 x.h.siz, .slice x.A x.p.length x.c, .int .u32 x.sum, .int .i64 (x.at_ : Int)] _ HCL.out Tryz.underlying78 rfl (by kernel_rfl) ?_)
      generalize wr.alloc (.cells #[.int .i64 x.h.k, .int .i64 x.h.idx, .int .i64 x.h.len, .int .i64 x.h.stp, .int .i64 x.h.bnd, .bool x.h.lst, .int .u32 x.h.lnk, .int .i64 x.h.siz, .slice x.A x.p.length x.c, .int .u32 x.sum, .int .i64 (x.at_ : Int)] 78) = w2 at *
      generalize wr.heap.size = gk at *
      go_wp2_with fail
      refine ⟨⟨n + 1, hlt, by rw [HW.out, HST.out], by go_num, hbw2⟩, by simp [intOf]; omega⟩
    · obtain rfl : n = L.length := by omega
      have dn : decide (L.length < L.length) = false := by simp
      have hbX := hb0.trans (hbw.mono hb0.size)
      clear hk1
      rw [List.take_length]
      go_wp2_with fail
      go_ret
      exact ⟨rfl, hbX⟩
end Go.Proofs.YtkmhmehofipehaaGreatDoor
/- What is true of any file that was read, plainly. -/
namespace Go.Proofs.YtkmhmehofipehaaGreatDoor
set_option linter.unusedVariables false
open Go.RowKit
theorem loopG_le (b : List UInt8) : ∀ (n : Nat) (s : Int × Nat) (acc : List TagV), (loopG b n s acc).2.length ≤ acc.length + n
  | 0, s, acc => by simp [loopG]
  | n + 1, s, acc => by
    unfold loopG
    by_cases h : (stepG b s).1.1 ≠ 0
    · rw [if_pos h]
      show acc.length ≤ _
      omega
    · rw [if_neg h]
      have := loopG_le b n (stepG b s).1 (acc ++ [(stepG b s).2])
      rw [List.length_append, List.length_singleton] at this
      omega
theorem getG_few (b : List UInt8) : (getG b).2.2.length ≤ 255 := by
  have hc : countG b ≤ 255 := by
    unfold countG
    have h := valLE_lt ((b.drop 2).take 1)
    have h2 : ((b.drop 2).take 1).length ≤ 1 := List.length_take_le _ _
    have h3 : 256 ^ ((b.drop 2).take 1).length ≤ 256 ^ 1 := Nat.pow_le_pow_right (by decide) h2
    have h4 : (256 : Nat) ^ 1 = 256 := rfl
    omega
  have hl := loopG_le b (countG b) (0, 3) []
  unfold getG
  split
  · simp
  · split
    · simp
    · unfold finG endG
      split
      · simp
      · split
        · simp
        · split
          · simp
          · show (loopG b (countG b) (0, 3) []).2.length ≤ 255
            have : ([] : List TagV).length = 0 := rfl
            omega
def PS.good (s : PS) : Prop := s.cnt = sumLen s.bl ∧ ∀ x ∈ s.bl, 0 ≤ x.h.len ∧ x.h.len ≤ 65536
theorem begP_good (n : Nat) : (begP n).good := ⟨rfl, fun x hx => by simp [begP] at hx⟩
theorem loopP_good (i : InfoV) (b : List UInt8) : ∀ (n : Nat) (s : PS), s.ok b → s.good → (loopP i b n s).2.ok b ∧ (loopP i b n s).2.good
  | 0, s, h, g => ⟨h, g⟩
  | n + 1, s, h, g => by
    unfold loopP
    by_cases h1 : b[s.at_]? = some 69
    · rw [if_pos h1]; exact ⟨h, g⟩
    · rw [if_neg h1]
      by_cases h2 : blkE i b s ≠ 0
      · rw [if_pos h2]; exact ⟨h, g⟩
      · rw [if_neg h2]
        have h3 : blkE i b s = 0 := by simpa using h2
        obtain ⟨h4, h5, h6⟩ := blkE_ok h3
        have h7 := openH_len h5
        refine loopP_good i b n _ (h.next h3) ⟨?_, fun x hx => ?_⟩
        · show s.cnt + _ = sumLen (s.bl ++ [_])
          rw [sumLen_app, g.1]
          simp [sumLen]
        · rcases List.mem_append.1 (show x ∈ s.bl ++ [_] from hx) with hx | hx
          · exact g.2 x hx
          · rw [List.mem_singleton.1 hx]
            show 0 ≤ (openH (b.drop s.at_)).2.1.len ∧ (openH (b.drop s.at_)).2.1.len ≤ 65536
            omega
theorem parse_good (b : List UInt8) (hb : b.length ≤ 1000000) :
    (parseF b).2.cnt = sumLen (parseF b).2.bl ∧ (∀ x ∈ (parseF b).2.bl, 0 ≤ x.h.len ∧ x.h.len ≤ 65536) ∧ (parseF b).2.bl.length ≤ 100000 ∧ (parseF b).2.l.length ≤ 255 := by
  have hz : FileV.zero.cnt = sumLen FileV.zero.bl ∧ (∀ x ∈ FileV.zero.bl, 0 ≤ x.h.len ∧ x.h.len ≤ 65536) ∧ FileV.zero.bl.length ≤ 100000 ∧ FileV.zero.l.length ≤ 255 := ⟨rfl, fun x hx => by simp [FileV.zero] at hx, by simp [FileV.zero], by simp [FileV.zero]⟩
  unfold parseF
  by_cases h1 : (getI b).1 ≠ 0
  · rw [if_pos h1]; exact hz
  · rw [if_neg h1]
    by_cases h2 : (getG (b.drop 19)).1 ≠ 0
    · rw [if_pos h2]; exact hz
    · rw [if_neg h2]
      have h3 : (getI b).1 = 0 := by simpa using h1
      have hl19 := getI_long h3
      have hgr := (getG_range (b.drop 19)).1
      rw [List.length_drop] at hgr
      obtain ⟨hk, hg⟩ := loopP_good (infoOf b) b (b.length + 1) (begP (getG (b.drop 19)).2.1) (begP_ok (by omega)) (begP_good _)
      have hf := getG_few (b.drop 19)
      generalize loopP (infoOf b) b (b.length + 1) (begP (getG (b.drop 19)).2.1) = r at *
      unfold finP
      by_cases h4 : r.1 ≠ 0
      · rw [if_pos h4]; exact hz
      · rw [if_neg h4]
        by_cases h5 : tailE b r.2 ≠ 0
        · rw [if_pos h5]; exact hz
        · rw [if_neg h5]
          have h6 : tailE b r.2 = 0 := by simpa using h5
          have h7 : (getT (b.drop r.2.at_)).2.2.1 = r.2.cnt := by
            unfold tailE at h6
            split at h6
            · rename_i h; exact absurd h6 h
            · split at h6
              · exact absurd h6 (by decide)
              · split at h6
                · exact absurd h6 (by decide)
                · rename_i h; simpa using h
          have h8 := hk.at36
          have h9 := hk.at_
          have h10 := hk.num
          exact ⟨h7.trans hg.1, hg.2, by show r.2.bl.length ≤ 100000; omega, hf⟩
end Go.Proofs.YtkmhmehofipehaaGreatDoor
/- No tags, checked and laid. -/
namespace Go.Proofs.YtkmhmehofipehaaGreatDoor
set_option linter.unusedVariables false
open Go.RowKit
theorem check_none (A : Option Addr) (c : Nat) (w : World) : Calls Tryz.prog 62 #[.slice A 0 c] w fun e w' => e = .returned (.tuple #[.int .i64 0, .int .i64 0]) ∧ w = w' := by
  go_enter Tryz.func62, Tryz.ntmps62
  go_wp2_with fail
  go_loop [11] (fun i => i = .int .i64 0) (fun _ => 0)
  case atStart => exact rfl
  case round =>
    obtain rfl := hrel
    go_wp2_with fail
    go_ret2
    exact ⟨rfl, rfl⟩
set_option maxRecDepth 20000 in
set_option maxHeartbeats 2000000 in
theorem tagput_none (g : Nat) (A : Option Addr) (c : Nat) (w : World) (ht : Tab w g) :
    Calls Tryz.prog 46 #[.pointer (some ⟨g, 0, none⟩), .slice A 0 c] w (PutPost w (sealed [84, 71, 0])) := by
  have htg := ht.lt
  go_enter Tryz.func46, Tryz.ntmps46
  go_wp2_with fail
  refine (check_none A c w).mono ?_
  rintro e w1 ⟨rfl, rfl⟩
  have hm := mk_new w
  have hb2 : Below w.heap.size w (w.alloc (.cells #[.int .i64 0, .slice none 0 0] 116)) := (Below.refl _ w).alloc (Nat.le_refl _) _
  have hsz2 : (w.alloc (.cells #[.int .i64 0, .slice none 0 0] 116)).heap.size = w.heap.size + 1 := by simp
  go_wp2_with fail
  generalize w.alloc (.cells #[.int .i64 0, .slice none 0 0] 116) = w2 at *
  have hb3 : Below w2.heap.size w2 (w2.alloc (.cells #[.int .u8 84, .int .u8 71, .int .u8 0] 5)) := (Below.refl _ w2).alloc (Nat.le_refl _) _
  have hs3 : SeesB (w2.alloc (.cells #[.int .u8 84, .int .u8 71, .int .u8 0] 5)) (some ⟨w.heap.size + 1, 0, none⟩) [84, 71, 0] := by
    rw [← hsz2]
    exact Sees.of_block (heap_alloc_new w2 _) rfl
  have hm3 := hm.below hb3
  have hbw3 := hb2.trans (hb3.mono hb2.size)
  clear hm hb3
  generalize w2.alloc (.cells #[.int .u8 84, .int .u8 71, .int .u8 0] 5) = w3 at *
  refine (raw_any w.heap.size _ 0 [] _ 3 [84, 71, 0] w3 hm3 hs3 (by decide)).mono ?_
  rintro e w4 ⟨rfl, R4, hm4, hB4, hR4⟩
  rw [show putRaw (0, []) [84, 71, 0] = (0, [84, 71, 0]) from rfl] at hm4
  have hR4' : ∀ b, R4 b → w.heap.size ≤ b := fun b h => by
    rcases hR4 b h with h | h
    · exact Nat.le_of_eq h.symm
    · have := hm3.lt; omega
  have hbw4 := But.below hbw3 hB4 (fun n h => by omega) hbw3.size
  clear hm3 hs3 hB4 hR4 hbw3 hb2 hsz2
  go_wp2_with fail
  go_loop [33] (fun i => i = .int .i64 0) (fun _ => 0)
  case atStart => exact rfl
  case round =>
    obtain rfl := hrel
    go_wp2_with fail
    refine (bytes_ok w.heap.size R4 [84, 71, 0] w4 hm4 (by decide)).mono ?_
    rintro e w8 ⟨v, rfl, hv⟩
    obtain ⟨A8, c8, rfl, hs8, hA8, ho8, hb8⟩ := hv.parts
    have hbw8 := hbw4.trans (hb8.mono hbw4.size)
    have hm8 := hm4.below hb8
    have hll : ([84, 71, 0] : List UInt8).length = 3 := rfl
    generalize ([84, 71, 0] : List UInt8) = L at *
    have HL := hid hll
    clear hll
    have hsr := sumI_range L
    obtain ⟨S, hS⟩ := Int.eq_ofNat_of_zero_le hsr.1
    go_wp2_with fail
    refine (sum_any g A8 c8 L w8 (ht.keep hbw8 htg) hs8 (by rw [HL.out]; omega)).mono ?_
    rintro e w9 ⟨rfl, rfl⟩
    have hse : sealed L = L ++ bytesLE S 4 := by unfold sealed; rw [hS]; rfl
    have HSE := hid hse
    rw [hS] at hsr ⊢
    have hS4 : S < 4294967296 := by omega
    clear hse hS
    have hp : putU (0, L) S 4 = (0, L ++ bytesLE S 4) := putU_ok _ S 4 (by omega) (by omega)
    have hst := hid (makerU_any w.heap.size R4 0 L S 4 w8 hm8 (by omega) (by rw [HL.out]; omega))
    rw [hp] at hst
    clear hp hv ho8 hs8 hA8
    go_wp2_with fail
    refine hst.out.mono ?_
    rintro e wa ⟨rfl, Ra, hma, hBa, hRa⟩
    have hbwa := But.below hbw8 hBa (fun b h => hR4' b h) hbw8.size
    go_wp2_with fail
    refine (bytes_ok w.heap.size Ra _ wa hma (by rw [List.length_append, bytesLE_length, HL.out]; omega)).mono ?_
    rintro e wb ⟨v, rfl, hv⟩
    have hf : PutPost w (sealed L) (.returned (.tuple #[v, .int .i64 0])) wb := ⟨v, rfl, by rw [HSE.out]; exact hv.lower hbwa⟩
    go_wp2_with fail
    go_ret2
    exact hf
end Go.Proofs.YtkmhmehofipehaaGreatDoor
