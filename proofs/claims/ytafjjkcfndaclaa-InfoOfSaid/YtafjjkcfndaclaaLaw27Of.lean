/- The walk of InfoOf. -/
import Derived.Test.YtafjjkcfndaclaaLaw27Known
import Derived.Test.YtafjjkcfndaclaaInfoMates
import Derived.Test.YtafjjkcfndaclaaInfoOf
import Derived.Test.YtafjjkcfndaclaaHeld
import Derived.Test.YtafjjkcfndaclaaHeldRow
namespace Go.Proofs.Ytafjjkcfndaclaa.infoOf
set_option linter.unusedVariables false
open Go.RowKit
theorem two_allocs (w : World) (a b : Obj) : ((w.alloc a).alloc b).heap[w.heap.size]? = some a ∧ ((w.alloc a).alloc b).heap[w.heap.size + 1]? = some b ∧ Below w.heap.size w ((w.alloc a).alloc b) ∧ ((w.alloc a).alloc b).heap.size = w.heap.size + 2 := by
  have s1 : (w.alloc a).heap.size = w.heap.size + 1 := by first | rfl | simp | exact Array.size_push ..
  have s2 : ((w.alloc a).alloc b).heap.size = w.heap.size + 2 := by first | rfl | simp | exact Array.size_push ..
  have b1 : Below w.heap.size w (w.alloc a) := (Below.refl _ w).alloc (Nat.le_refl _) _
  have b2 : Below (w.alloc a).heap.size (w.alloc a) ((w.alloc a).alloc b) := (Below.refl _ _).alloc (Nat.le_refl _) _
  have h1 := heap_alloc_new w a
  have h2 := heap_alloc_new (w.alloc a) b
  rw [s1] at h2
  exact ⟨(b2.block _ (by omega)).trans h1, h2, b1.trans (b2.mono (by omega)), s2⟩
def OfS (w : World) (g7 g9 : Nat) (I C : Array Value) (w' : World) : Prop :=
  w'.heap[g7]? = some (.cells I 25 (0, 0)) ∧ w'.heap[g9]? = some (.cells I 25 (0, 0)) ∧ w'.heap[w.heap.size + 1]? = some (.cells C 37 (0, 0)) ∧ Below w.heap.size w w'
theorem OfS.keep {w w' w'' : World} {g7 g9 : Nat} {I C : Array Value} (h : OfS w g7 g9 I C w') (hb : Below w'.heap.size w' w'') : OfS w g7 g9 I C w'' :=
  ⟨(hb.block g7 (Array.getElem?_eq_some_iff.1 h.1).1).trans h.1, (hb.block g9 (Array.getElem?_eq_some_iff.1 h.2.1).1).trans h.2.1, (hb.block _ (Array.getElem?_eq_some_iff.1 h.2.2.1).1).trans h.2.2.1, h.2.2.2.trans (hb.mono h.2.2.2.size)⟩
theorem of_right (k ch bi ra blk ord win shp tgt res : Int) {er a1 a2 a3 a4 a5 a6 : Int} (h : ofI k ch bi ra blk ord win shp tgt res = (er, a1, a2, a3, a4, a5, a6)) (he : er = 0) : rightI a1 a2 a3 a4 a5 a6 = true := by
  unfold ofI at h
  split at h
  · simp at h; omega
  · split at h
    · simp at h; omega
    · split at h
      · simp at h; omega
      · rename_i h1 h2 h3
        have h4 : rightC blk ord win shp tgt res = true := by
          unfold codeC at h3
          split at h3
          · assumption
          · simp at h3
        simp only [Prod.mk.injEq] at h
        obtain ⟨_, rfl, rfl, rfl, rfl, rfl, rfl⟩ := h
        have h5 := of_decide_eq_true h4
        unfold rightI
        rw [decide_eq_true_eq]
        refine ⟨by omega, by simpa using h2, by omega, ?_, ?_⟩
        · split <;> omega
        · intro h6; rw [if_pos h6]
theorem sameI_self (k ch bi ra bl sh : Int) : sameI k ch bi ra bl sh k ch bi ra bl sh = true := by unfold sameI sameF; simp
set_option maxRecDepth 20000 in
set_option maxHeartbeats 4000000 in
theorem walk (k ch bi ra blk ord win shp tgt res : Int) (w : World) :
    Calls Try.prog 5 #[.int .i64 k, .agg #[.int .i64 ch, .int .i64 bi, .int .i64 ra], .agg #[.int .i64 blk, .int .i64 ord, .int .i64 win, .int .i64 shp, .int .i64 tgt, .int .i64 res]] w fun e w' => e = .returned (.bool true) ∧ Below w.heap.size w w' := by
  have hO := fun W => of_any k ch bi ra blk ord win shp tgt res W
  have hP := fun W => rof_any k ch bi ra blk ord win shp tgt res W
  obtain ⟨r, hr⟩ : ∃ r, r = ofI k ch bi ra blk ord win shp tgt res := ⟨_, rfl⟩
  rw [← hr] at hO hP
  obtain ⟨er, a1, a2, a3, a4, a5, a6⟩ := r
  have hri := of_right k ch bi ra blk ord win shp tgt res hr.symm
  unfold OfPost at hO hP
  simp only at hO hP
  have HCF := hid (fun W => config_any blk ord win shp tgt res W)
  have HRC := hid (fun W => rconfig_any blk ord win shp tgt res W)
  have HO := hid hO
  have HP := hid hP
  generalize codeC blk ord win shp tgt res = cc at *
  clear hO hP hr
  have hq := fun W => eq_info a1 a2 a3 a4 a5 a6 a1 a2 a3 a4 a5 a6 W
  rw [sameI_self] at hq
  have e1 : (er == er) = true := by simp
  have e2 : (cc == cc) = true := by simp
  obtain ⟨hF, hC, hb, hsz⟩ := two_allocs w (.cells #[.int .i64 ch, .int .i64 bi, .int .i64 ra] 23) (.cells #[.int .i64 blk, .int .i64 ord, .int .i64 win, .int .i64 shp, .int .i64 tgt, .int .i64 res] 37)
  have hlt : w.heap.size + 1 < ((w.alloc (.cells #[.int .i64 ch, .int .i64 bi, .int .i64 ra] 23)).alloc (.cells #[.int .i64 blk, .int .i64 ord, .int .i64 win, .int .i64 shp, .int .i64 tgt, .int .i64 res] 37)).heap.size := by omega
  clear hsz
  go_enter Try.func5, Try.ntmps5
  go_upto_region 1 with (fail)
  generalize ((w.alloc (.cells #[.int .i64 ch, .int .i64 bi, .int .i64 ra] 23)).alloc (.cells #[.int .i64 blk, .int .i64 ord, .int .i64 win, .int .i64 shp, .int .i64 tgt, .int .i64 res] 37)) = w0 at *
  go_wp2_with first | (refine wpList_load_row rfl 23 (.tmp 4) rfl w.heap.size rfl 23 #[.int .i64 ch, .int .i64 bi, .int .i64 ra] (0, 0) _ hF Try.underlying23 rfl (by kernel_rfl) ?_) | (refine wpList_load_row rfl 37 (.tmp 5) rfl (w.heap.size + 1) rfl 37 #[.int .i64 blk, .int .i64 ord, .int .i64 win, .int .i64 shp, .int .i64 tgt, .int .i64 res] (0, 0) _ hC Try.underlying37 rfl (by kernel_rfl) ?_)
  refine (HO.out _).mono ?_
  rintro e w2 ⟨rfl, hx⟩
  have hF2 := (hx.block w.heap.size (by omega)).trans hF
  have hC2 := (hx.block (w.heap.size + 1) (by omega)).trans hC
  have hb2 := hb.trans (hx.mono hb.size)
  have hlt2 := Nat.lt_of_lt_of_le hlt hx.size
  clear hx hF hC hb hlt
  have hx : Below w2.heap.size w2 (w2.alloc (.cells #[.int .i64 a1, .int .i64 a2, .int .i64 a3, .int .i64 a4, .int .i64 a5, .int .i64 a6] 25)) := (Below.refl _ _).alloc (Nat.le_refl _) _
  have hr3 := heap_alloc_new w2 (.cells #[.int .i64 a1, .int .i64 a2, .int .i64 a3, .int .i64 a4, .int .i64 a5, .int .i64 a6] 25)
  have hF3 := (hx.block w.heap.size (by omega)).trans hF2
  have hC3 := (hx.block (w.heap.size + 1) (by omega)).trans hC2
  have hb3 := hb2.trans (hx.mono hb2.size)
  clear hx hF2 hC2 hb2
  have hlt3 : w2.heap.size < (w2.alloc (.cells #[.int .i64 a1, .int .i64 a2, .int .i64 a3, .int .i64 a4, .int .i64 a5, .int .i64 a6] 25)).heap.size := (Array.getElem?_eq_some_iff.1 hr3).1
  go_wp2_with first | (refine wpList_load_row rfl 23 (.tmp 4) rfl w.heap.size rfl 23 #[.int .i64 ch, .int .i64 bi, .int .i64 ra] (0, 0) _ hF3 Try.underlying23 rfl (by kernel_rfl) ?_) | (refine wpList_load_row rfl 37 (.tmp 5) rfl (w.heap.size + 1) rfl 37 #[.int .i64 blk, .int .i64 ord, .int .i64 win, .int .i64 shp, .int .i64 tgt, .int .i64 res] (0, 0) _ hC3 Try.underlying37 rfl (by kernel_rfl) ?_)
  generalize w2.alloc (.cells #[.int .i64 a1, .int .i64 a2, .int .i64 a3, .int .i64 a4, .int .i64 a5, .int .i64 a6] 25) = w3 at *
  generalize w2.heap.size = g7 at *
  refine (HP.out _).mono ?_
  rintro e w4 ⟨rfl, hx⟩
  have hr4 := (hx.block g7 (by omega)).trans hr3
  have hC4 := (hx.block (w.heap.size + 1) (by omega)).trans hC3
  have hb4 := hb3.trans (hx.mono hb3.size)
  have hlt4 := Nat.lt_of_lt_of_le hlt3 hx.size
  clear hx hF3 hC3 hb3 hr3
  have hx : Below w4.heap.size w4 (w4.alloc (.cells #[.int .i64 a1, .int .i64 a2, .int .i64 a3, .int .i64 a4, .int .i64 a5, .int .i64 a6] 25)) := (Below.refl _ _).alloc (Nat.le_refl _) _
  have hr9 := heap_alloc_new w4 (.cells #[.int .i64 a1, .int .i64 a2, .int .i64 a3, .int .i64 a4, .int .i64 a5, .int .i64 a6] 25)
  have hr7 := (hx.block g7 (by omega)).trans hr4
  have hC5 := (hx.block (w.heap.size + 1) (by omega)).trans hC4
  have hb5 := hb4.trans (hx.mono hb4.size)
  clear hx hC4 hb4 hr4 hlt2 hlt3
  by_cases her : er = 0
  · have e3 : (er != 0) = false := by rw [her]; rfl
    have HRI := hid (fun W => iright_any a1 a2 a3 a4 a5 a6 W)
    rw [hri her] at HRI
    clear her hri
    go_wp2_with fail
    generalize w4.alloc (.cells #[.int .i64 a1, .int .i64 a2, .int .i64 a3, .int .i64 a4, .int .i64 a5, .int .i64 a6] 25) = w5 at *
    generalize w4.heap.size = g9 at *
    refine wp_region_held (OfS w g7 g9 #[.int .i64 a1, .int .i64 a2, .int .i64 a3, .int .i64 a4, .int .i64 a5, .int .i64 a6] #[.int .i64 blk, .int .i64 ord, .int .i64 win, .int .i64 shp, .int .i64 tgt, .int .i64 res]) (by kernel_rfl) (by kernel_rfl) ⟨hr7, hr9, hC5, hb5.drew⟩ ?_
    repeat (first
      | (refine held_no (by rfl) ?_; (try simp only [Act.put, List.setIfInBounds_toArray, List.set_cons_zero, List.set_cons_succ]))
      | (refine held_yes (by rfl) (fun w' h => held_load_row 25 _ rfl g7 (by rfl) _ _ _ h.1 _ Try.underlying25 rfl (by kernel_rfl) h) ?_; (try simp only [Act.put, List.setIfInBounds_toArray, List.set_cons_zero, List.set_cons_succ]))
      | (refine held_yes (by rfl) (fun w' h => held_load_row 25 _ rfl g9 (by rfl) _ _ _ h.2.1 _ Try.underlying25 rfl (by kernel_rfl) h) ?_; (try simp only [Act.put, List.setIfInBounds_toArray, List.set_cons_zero, List.set_cons_succ]))
      | (refine held_yes (by rfl) (fun w' h => held_load_row 37 _ rfl (w.heap.size + 1) (by rfl) _ _ _ h.2.2.1 _ Try.underlying37 rfl (by kernel_rfl) h) ?_; (try simp only [Act.put, List.setIfInBounds_toArray, List.set_cons_zero, List.set_cons_succ]))
      | (apply held_yes (by rfl); (· intro w' h; go_simp; first | exact rfl | exact ⟨rfl, h⟩ | exact (HCF.out _).mono (fun e w'' ⟨he, hb⟩ => ⟨he, h.keep hb⟩) | exact (HRC.out _).mono (fun e w'' ⟨he, hb⟩ => ⟨he, h.keep hb⟩) | exact (known_any _).mono (fun e w'' ⟨he, hb⟩ => ⟨he, h.keep hb⟩) | exact (HRI.out _).mono (fun e w'' ⟨he, hb⟩ => ⟨he, h.keep hb⟩)); (try simp only [Act.put, List.setIfInBounds_toArray, List.set_cons_zero, List.set_cons_succ])))
    refine held_nil fun w9 h9 => ?_
    go_wp2_with fail
    go_ret
    exact ⟨rfl, h9.2.2.2⟩
  · have e3 : (er != 0) = true := by simpa using her
    clear her hri
    go_wp2_with fail
    generalize w4.alloc (.cells #[.int .i64 a1, .int .i64 a2, .int .i64 a3, .int .i64 a4, .int .i64 a5, .int .i64 a6] 25) = w5 at *
    generalize w4.heap.size = g9 at *
    refine wp_region_held (OfS w g7 g9 #[.int .i64 a1, .int .i64 a2, .int .i64 a3, .int .i64 a4, .int .i64 a5, .int .i64 a6] #[.int .i64 blk, .int .i64 ord, .int .i64 win, .int .i64 shp, .int .i64 tgt, .int .i64 res]) (by kernel_rfl) (by kernel_rfl) ⟨hr7, hr9, hC5, hb5.drew⟩ ?_
    repeat (first
      | (refine held_no (by rfl) ?_; (try simp only [Act.put, List.setIfInBounds_toArray, List.set_cons_zero, List.set_cons_succ]))
      | (refine held_yes (by rfl) (fun w' h => held_load_row 25 _ rfl g7 (by rfl) _ _ _ h.1 _ Try.underlying25 rfl (by kernel_rfl) h) ?_; (try simp only [Act.put, List.setIfInBounds_toArray, List.set_cons_zero, List.set_cons_succ]))
      | (refine held_yes (by rfl) (fun w' h => held_load_row 25 _ rfl g9 (by rfl) _ _ _ h.2.1 _ Try.underlying25 rfl (by kernel_rfl) h) ?_; (try simp only [Act.put, List.setIfInBounds_toArray, List.set_cons_zero, List.set_cons_succ]))
      | (refine held_yes (by rfl) (fun w' h => held_load_row 37 _ rfl (w.heap.size + 1) (by rfl) _ _ _ h.2.2.1 _ Try.underlying37 rfl (by kernel_rfl) h) ?_; (try simp only [Act.put, List.setIfInBounds_toArray, List.set_cons_zero, List.set_cons_succ]))
      | (apply held_yes (by rfl); (· intro w' h; go_simp; first | exact rfl | exact ⟨rfl, h⟩ | exact (HCF.out _).mono (fun e w'' ⟨he, hb⟩ => ⟨he, h.keep hb⟩) | exact (HRC.out _).mono (fun e w'' ⟨he, hb⟩ => ⟨he, h.keep hb⟩) | exact (known_any _).mono (fun e w'' ⟨he, hb⟩ => ⟨he, h.keep hb⟩)); (try simp only [Act.put, List.setIfInBounds_toArray, List.set_cons_zero, List.set_cons_succ])))
    refine held_nil fun w9 h9 => ?_
    go_wp2_with fail
    go_ret
    exact ⟨rfl, h9.2.2.2⟩
end Go.Proofs.Ytafjjkcfndaclaa.infoOf
