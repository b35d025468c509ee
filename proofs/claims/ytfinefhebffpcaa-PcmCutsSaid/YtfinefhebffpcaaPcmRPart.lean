/- Samples parted: the reference's. -/
import Derived.Test.YtfinefhebffpcaaPcmRSil
import Derived.Test.YtfinefhebffpcaaHeldRow
import Derived.BigQuiet
namespace Go.Proofs.Ytfinefhebffpcaa
set_option linter.unusedVariables false
open Go.RowKit
/-- one channel, as far as samples are laid -/
def fillR (l : List Int) (ch n i r : Nat) : List Int := (List.range n).map fun j => if j * ch + r < i then l.getD (j * ch + r) 0 else 0
theorem fillR_zero (l : List Int) (ch n r : Nat) : fillR l ch n 0 r = List.replicate n 0 := by
  unfold fillR
  simp [List.map_const']
theorem fillR_len (l : List Int) (ch n i r : Nat) : (fillR l ch n i r).length = n := by simp [fillR]
theorem fillR_at (l : List Int) (ch n i r j : Nat) (h : j < (fillR l ch n i r).length) : (fillR l ch n i r)[j] = if j * ch + r < i then l.getD (j * ch + r) 0 else 0 := by simp [fillR]
theorem fillR_full (l : List Int) (ch n r : Nat) (hr : r < ch) : fillR l ch n (n * ch) r = colL l ch n r := by
  unfold fillR colL
  apply List.map_congr_left
  intro j hj
  have hj : j < n := by simpa using hj
  rw [if_pos]
  have : (j + 1) * ch ≤ n * ch := Nat.mul_le_mul_right _ hj
  rw [Nat.add_mul] at this
  omega
theorem place (ch i j r : Nat) (hr : r < ch) : j * ch + r = i ↔ r = i % ch ∧ j = i / ch := by
  constructor
  · rintro rfl
    rw [Nat.add_comm, Nat.add_mul_mod_self_right, Nat.mod_eq_of_lt hr, Nat.add_mul_div_right _ _ (by omega), Nat.div_eq_of_lt hr]
    omega
  · rintro ⟨rfl, rfl⟩
    have := Nat.div_add_mod i ch
    rw [Nat.mul_comm] at this
    exact this
theorem fillR_other (l : List Int) (ch n i r : Nat) (hr : r < ch) (h : r ≠ i % ch) : fillR l ch n (i + 1) r = fillR l ch n i r := by
  unfold fillR
  apply List.map_congr_left
  intro j _
  have hne : j * ch + r ≠ i := fun e => h ((place ch i j r hr).1 e).1
  by_cases h1 : j * ch + r < i
  · rw [if_pos h1, if_pos (by omega)]
  · rw [if_neg h1, if_neg (by omega)]
theorem fillR_set (l : List Int) (ch n i : Nat) (hch : 0 < ch) : (fillR l ch n i (i % ch)).set (i / ch) (l.getD i 0) = fillR l ch n (i + 1) (i % ch) := by
  apply List.ext_getElem (by simp [fillR_len])
  intro j hj hj'
  have hjn : j < n := by simpa [fillR_len] using hj'
  have hr := Nat.mod_lt i hch
  rw [List.getElem_set]
  by_cases he : i / ch = j
  · rw [if_pos he]
    have e : j * ch + i % ch = i := (place ch i j (i % ch) hr).2 ⟨rfl, he.symm⟩
    rw [fillR_at, if_pos (by omega), e]
  · rw [if_neg he]
    have hne : j * ch + i % ch ≠ i := fun e => he ((place ch i j (i % ch) hr).1 e).2.symm
    rw [fillR_at, fillR_at]
    by_cases h1 : j * ch + i % ch < i
    · rw [if_pos h1, if_pos (by omega)]
    · rw [if_neg h1, if_neg (by omega)]
/-- sound on its way -/
structure PartS (w : World) (A : Option Addr) (l : List Int) (CH N : Nat) (ra : Int) (gS : Nat) (As : Option Addr) (cs : Nat) (gs : List Nat) (f : Nat → List Int) (B : Nat) (w' : World) : Prop where
  r0 : w'.heap[w.heap.size]? = some (.cells #[.int .i64 (CH : Int), .int .i64 (N : Int), .int .i64 ra] 23 (0, 0))
  r1 : w'.heap[w.heap.size + 1]? = some (.cells #[.int .i64 0, .int .i64 0, .int .i64 0, .slice none 0 0] 26 (0, 0))
  sl : SeesI w' A l
  b : Below w.heap.size w w'
  rS : w'.heap[gS]? = some (.cells #[.int .i64 (CH : Int), .int .i64 (N : Int), .int .i64 ra, .slice As CH cs] 26 (0, 0))
  os : w'.ownsRow B 34 1 (.slice As CH cs) CH (gs.map fun g => Value.slice (some ⟨g, 0, none⟩) (f 0).length (f 0).length)
  G : Rows5 w' gs f
  gN : ∀ g ∈ gs, g ≠ gS ∧ w.heap.size + 2 ≤ g
  gS2 : w.heap.size + 2 ≤ gS
  B2 : w.heap.size + 2 ≤ B
  oS : (Value.slice As CH cs).ownBlock ≠ some gS
  gl : gs.length = CH
theorem own_far {w : World} {base : Nat} {e : TypeId} {size : Nat} {v : Value} {n : Nat} {xs : List Value} (h : w.ownsRow base e size v n xs) {q : Nat} (hq : v.ownBlock ≠ some q) (cs : Array Value) : (w.setRow q cs).ownsRow base e size v n xs := by
  refine ⟨h.1, ?_⟩
  rcases h.2 with h' | ⟨g, cap, cur, hv, hbg, hrow, rest⟩
  · exact .inl h'
  · exact .inr ⟨g, cap, cur, hv, hbg, (setRow_other w q g cs (fun he => hq (by rw [hv, ← he]; rfl))).trans hrow, rest⟩
theorem partS_begin {w : World} {A : Option Addr} {l : List Int} {CH N : Nat} {ra : Int} {gS : Nat} {As : Option Addr} {cs n : Nat} {gs : List Nat} {B : Nat} {w5 : World}
    (r0 : w5.heap[w.heap.size]? = some (.cells #[.int .i64 (CH : Int), .int .i64 (N : Int), .int .i64 ra] 23 (0, 0))) (r1 : w5.heap[w.heap.size + 1]? = some (.cells #[.int .i64 0, .int .i64 0, .int .i64 0, .slice none 0 0] 26 (0, 0))) (hl : SeesI w5 A l) (hb : Below w.heap.size w w5) (rS : w5.heap[gS]? = some (.cells #[.int .i64 0, .int .i64 0, .int .i64 0, .slice none 0 0] 26 (0, 0)))
    (hos : w5.ownsRow B 34 1 (.slice As CH cs) CH (gs.map fun g => Value.slice (some ⟨g, 0, none⟩) n n)) (hG : Rows5 w5 gs fun _ => List.replicate n 0) (hGN : ∀ g ∈ gs, g ≠ gS ∧ w.heap.size + 2 ≤ g) (hgS2 : w.heap.size + 2 ≤ gS) (hB2 : w.heap.size + 2 ≤ B) (hoS : (Value.slice As CH cs).ownBlock ≠ some gS) (hgl : gs.length = CH) (hA : ∀ a, A = some a → 0 < l.length → a.block < w.heap.size) :
    PartS w A l CH N ra gS As cs gs (fillR l CH n 0) B (w5.setRow gS #[.int .i64 (CH : Int), .int .i64 (N : Int), .int .i64 ra, .slice As CH cs]) where
  r0 := (setRow_other w5 _ _ _ (by omega)).trans r0
  r1 := (setRow_other w5 _ _ _ (by omega)).trans r1
  sl := fun i v hv => by
    have h0 : 0 < l.length := by have := (List.getElem?_eq_some_iff.1 hv).1; simp at this; omega
    obtain ⟨a, ha, hc⟩ := hl i v hv
    have := hA a ha h0
    exact ⟨a, ha, (World.cell?_of_block (w := w5) (setRow_other w5 gS _ _ (by rw [addr_block]; omega))).trans hc⟩
  b := below_setRow hb (by omega) _
  rS := setRow_heap _ _ _ _ _ _ rS
  os := by rw [fillR_len]; exact own_far hos hoS _
  G := ⟨fun i hi => by rw [fillR_zero]; exact (setRow_other w5 _ _ _ (hGN _ (List.getElem_mem hi)).1).trans (hG.1 i hi), hG.2⟩
  gN := hGN
  gS2 := hgS2
  B2 := hB2
  oS := hoS
  gl := hgl
theorem PartS.drew {w : World} {A : Option Addr} {l : List Int} {CH N : Nat} {ra : Int} {gS : Nat} {As : Option Addr} {cs : Nat} {gs : List Nat} {f : Nat → List Int} {B : Nat} {w' : World} (h : PartS w A l CH N ra gS As cs gs f B w') : PartS w A l CH N ra gS As cs gs f B w'.drew :=
  ⟨h.r0, h.r1, h.sl, h.b.drew, h.rS, h.os, h.G, h.gN, h.gS2, h.B2, h.oS, h.gl⟩
theorem PartS.drewN {w : World} {A : Option Addr} {l : List Int} {CH N : Nat} {ra : Int} {gS : Nat} {As : Option Addr} {cs : Nat} {gs : List Nat} {f : Nat → List Int} {B : Nat} {w' : World} (h : PartS w A l CH N ra gS As cs gs f B w') (k : Nat) : PartS w A l CH N ra gS As cs gs f B (w'.drewN k) :=
  ⟨h.r0, h.r1, h.sl, drewBelow h.b k, h.rS, h.os, h.G, h.gN, h.gS2, h.B2, h.oS, h.gl⟩
theorem far_own {w : World} {base : Nat} {e : TypeId} {size : Nat} {v : Value} {n : Nat} {xs : List Value} (h : w.ownsRow base e size v n xs) {a : Addr} (hq : v.ownBlock ≠ some a.block) (u : Value) : (w.setCell a u).ownsRow base e size v n xs := by
  refine ⟨h.1, ?_⟩
  rcases h.2 with h' | ⟨g, cap, cur, hv, hbg, hrow, rest⟩
  · exact .inl h'
  · exact .inr ⟨g, cap, cur, hv, hbg, (heap_setCell_other w a g u (fun he => hq (by rw [hv, ← he]; rfl))).trans hrow, rest⟩
theorem partS_step {w : World} {A : Option Addr} {l : List Int} {CH N : Nat} {ra : Int} {gS : Nat} {As : Option Addr} {cs n i r q : Nat} {gs : List Nat} {B : Nat} {w' : World} {X : Int} (h : PartS w A l CH N ra gS As cs gs (fillR l CH n i) B w') (hA : ∀ a, A = some a → 0 < l.length → a.block < w.heap.size)
    (hr : r = i % CH) (hq : q = i / CH) (hch : 0 < CH) (hrl : r < gs.length) (hX : l.getD i 0 = X) : PartS w A l CH N ra gS As cs gs (fillR l CH n (i + 1)) B (w'.setCell ⟨gs[r], q, none⟩ (.int .i64 X)) := by
  have hg := h.gN gs[r] (List.getElem_mem hrl)
  have hgS2 := h.gS2
  refine ⟨?_, ?_, ?_, ?_, ?_, ?_, ⟨fun j hj => ?_, h.G.2⟩, h.gN, h.gS2, h.B2, h.oS, h.gl⟩
  · exact (heap_setCell_other w' ⟨gs[r], q, none⟩ w.heap.size _ (by show w.heap.size ≠ gs[r]; omega)).trans h.r0
  · exact (heap_setCell_other w' ⟨gs[r], q, none⟩ (w.heap.size + 1) _ (by show w.heap.size + 1 ≠ gs[r]; omega)).trans h.r1
  · intro k v hv
    obtain ⟨a, ha, hc⟩ := h.sl k v hv
    refine ⟨a, ha, (World.cell?_of_block (w := w') (heap_setCell_other w' ⟨gs[r], q, none⟩ _ _ ?_)).trans hc⟩
    rw [addr_block]
    have := hA a ha (by have := (List.getElem?_eq_some_iff.1 hv).1; simp at this; omega)
    show a.block ≠ gs[r]
    omega
  · exact h.b.setCell (by show w.heap.size ≤ gs[r]; omega) _
  · exact (heap_setCell_other w' ⟨gs[r], q, none⟩ gS _ (by show gS ≠ gs[r]; omega)).trans h.rS
  · have := far_own h.os (a := ⟨gs[r], q, none⟩) (own_other h.os (h.G.1 r hrl) (by decide)) (.int .i64 X)
    rw [fillR_len] at this ⊢
    exact this
  · by_cases hjr : j = r
    · subst hjr
      have := heap_setCell_same w' gs[j] q _ _ (.int .i64 X) (h.G.1 j hj)
      rw [this]
      congr 2
      rw [List.setIfInBounds_toArray]
      congr 1
      have hs := fillR_set l CH n i hch
      rw [← hr, ← hq, hX] at hs
      rw [← hs, List.map_set]
      rfl
    · have hjl : j < CH := by rw [← h.gl]; exact hj
      rw [fillR_other l CH n i j hjl (by rw [← hr]; exact hjr)]
      refine (heap_setCell_other w' ⟨gs[r], q, none⟩ gs[j] _ ?_).trans (h.G.1 j hj)
      show gs[j] ≠ gs[r]
      intro he
      rcases Nat.lt_or_ge j r with hlt | hge
      · have := (List.pairwise_iff_getElem.1 h.G.2) j r hj hrl hlt; omega
      · have := (List.pairwise_iff_getElem.1 h.G.2) r j hrl hj (by omega); omega
theorem partS_end {w : World} {A : Option Addr} {l : List Int} {CH N : Nat} {ra : Int} {gS : Nat} {As : Option Addr} {cs n : Nat} {gs : List Nat} {B : Nat} {w' : World} (h : PartS w A l CH N ra gS As cs gs (fillR l CH n (n * CH)) B w') (hn : n ≤ 4294967296) :
    ∃ L : List Chan, L.length = CH ∧ SeesL (w'.setRow (w.heap.size + 1) #[.int .i64 (CH : Int), .int .i64 (N : Int), .int .i64 ra, .slice As CH cs]) As L ∧ ints L = (List.range CH).map (colL l CH n) := by
  have hgl := h.gl
  refine ⟨(List.range CH).map fun r => ⟨some ⟨gs.getD r 0, 0, none⟩, n, colL l CH n r⟩, by simp, ⟨?_, ?_⟩, ?_⟩
  · have he : ((List.range CH).map fun r => (⟨some ⟨gs.getD r 0, 0, none⟩, n, colL l CH n r⟩ : Chan)).map Chan.v = gs.map fun g => Value.slice (some ⟨g, 0, none⟩) (fillR l CH n (n * CH) 0).length (fillR l CH n (n * CH) 0).length := by
      apply List.ext_getElem (by simp [hgl])
      intro j hj hj'
      have hjg : j < gs.length := by simpa using hj'
      simp [Chan.v, colL_len, fillR_len, List.getD, hjg]
    rw [he]
    have hB := h.B2
    exact own_sees (own_setRow h.os (by omega) _)
  · intro x hx
    obtain ⟨r, hr, rfl⟩ := List.mem_map.1 hx
    have hr : r < CH := by simpa using hr
    have hrl : r < gs.length := by omega
    have hg := h.gN gs[r] (List.getElem_mem hrl)
    have hrow := h.G.1 r hrl
    rw [fillR_full l CH n r hr] at hrow
    have hrow2 := (setRow_other w' (w.heap.size + 1) gs[r] #[.int .i64 (CH : Int), .int .i64 (N : Int), .int .i64 ra, .slice As CH cs] (by omega)).trans hrow
    refine ⟨?_, by unfold maxLen; simp [colL_len]; omega⟩
    show Sees _ (some ⟨gs.getD r 0, 0, none⟩) _
    rw [show gs.getD r 0 = gs[r] by simp [List.getD, hrl]]
    exact Sees.of_block hrow2 (by simp)
  · unfold ints
    rw [List.map_map]
    rfl
set_option maxRecDepth 20000 in
set_option maxHeartbeats 8000000 in
theorem rpart_any (ch bi ra : Int) (A : Option Addr) (c : Nat) (l : List Int) (w : World) (hl : SeesI w A l) (hlen : l.length ≤ 4294967296) :
    Calls Try.prog 19 #[.agg #[.int .i64 ch, .int .i64 bi, .int .i64 ra], .slice A l.length c] w (SndPost w (partV ch bi ra l) ch bi ra ((List.range ch.toNat).map (colL l ch.toNat (l.length / ch.toNat)))) := by
  have hA : ∀ a, A = some a → 0 < l.length → a.block < w.heap.size := by
    intro a ha h0
    obtain ⟨a', ha', hc⟩ := hl.at h0
    rw [ha] at ha'; injection ha' with ha'; subst ha'
    have := block_lt_of_cell hc
    rwa [addr_block] at this
  obtain ⟨R, hR⟩ : ∃ R, R = partV ch bi ra l := ⟨_, rfl⟩
  rw [← hR]
  unfold partV at hR
  have hp := hid (fun W => rpright_any ch bi ra W)
  have hb := below_box2 w (.cells #[.int .i64 ch, .int .i64 bi, .int .i64 ra] 23) (.cells #[.int .i64 0, .int .i64 0, .int .i64 0, .slice none 0 0] 26)
  have r0 : ((w.alloc (.cells #[.int .i64 ch, .int .i64 bi, .int .i64 ra] 23)).alloc (.cells #[.int .i64 0, .int .i64 0, .int .i64 0, .slice none 0 0] 26)).heap[w.heap.size]? = some (.cells #[.int .i64 ch, .int .i64 bi, .int .i64 ra] 23 (0, 0)) := (Below.heap_alloc _ _ _ (by simp)).trans (heap_alloc_new w _)
  have r1 : ((w.alloc (.cells #[.int .i64 ch, .int .i64 bi, .int .i64 ra] 23)).alloc (.cells #[.int .i64 0, .int .i64 0, .int .i64 0, .slice none 0 0] 26)).heap[w.heap.size + 1]? = some (.cells #[.int .i64 0, .int .i64 0, .int .i64 0, .slice none 0 0] 26 (0, 0)) := by
    have h := heap_alloc_new (w.alloc (.cells #[.int .i64 ch, .int .i64 bi, .int .i64 ra] 23)) (.cells #[.int .i64 0, .int .i64 0, .int .i64 0, .slice none 0 0] 26)
    rwa [show (w.alloc (.cells #[.int .i64 ch, .int .i64 bi, .int .i64 ra] 23)).heap.size = w.heap.size + 1 by simp] at h
  have hl0 := hl.below hb
  have hs : w.heap.size + 2 ≤ ((w.alloc (.cells #[.int .i64 ch, .int .i64 bi, .int .i64 ra] 23)).alloc (.cells #[.int .i64 0, .int .i64 0, .int .i64 0, .slice none 0 0] 26)).heap.size := by simp
  have f0 : ((w.alloc (.cells #[.int .i64 ch, .int .i64 bi, .int .i64 ra] 23)).alloc (.cells #[.int .i64 0, .int .i64 0, .int .i64 0, .slice none 0 0] 26)).cell? ⟨w.heap.size, 0, none⟩ = some (.int .i64 ch) := by rw [cell_of_row _ _ _ _ _ _ r0]; rfl
  clear hl
  cases hr : rightF ch bi ra with
  | false =>
    rw [hr] at hp hR
    obtain rfl : R = 20 := by rw [hR]; simp
    clear hR
    go_enter Try.func19, Try.ntmps19
    go_wp2_with fail
    generalize (w.alloc (.cells #[.int .i64 ch, .int .i64 bi, .int .i64 ra] 23)).alloc (.cells #[.int .i64 0, .int .i64 0, .int .i64 0, .slice none 0 0] 26) = w2 at *
    refine (hp.out _).mono ?_
    rintro e w3 ⟨rfl, hb3⟩
    replace r1 := (hb3.block _ (by omega)).trans r1
    replace hb := hb.trans (hb3.mono hb.size)
    clear hb3 f0 r0
    go_wp2_with first | (refine wpList_store_row rfl 26 (.tmp 4) (.tmp 11) rfl rfl (w.heap.size + 1) rfl #[.int .i64 0, .int .i64 0, .int .i64 0, .slice none 0 0] rfl 26 #[.int .i64 0, .int .i64 0, .int .i64 0, .slice none 0 0] r1 (by kernel_rfl) rfl (by simp [Value.oneCell']) ?_)
    exact bodyPost_ret (v := .tuple #[.agg #[.int .i64 0, .int .i64 0, .int .i64 0, .slice none 0 0], .int .i64 20]) (results_row_tmp (fn := Try.f19) (p := 4) (u := 5) (ty := 26) rfl _ _ (w.heap.size + 1) _ _ _ _ rfl (setRow_heap _ _ _ _ _ _ r1) Try.underlying26 rfl (by kernel_rfl)) rfl (by
      unfold SndPost
      rw [if_neg (by omega)]
      exact ⟨rfl, below_setRow hb (by omega) _⟩)
  | true =>
    have hrr := hr
    unfold rightF at hrr
    have hrr := of_decide_eq_true hrr
    rw [hr] at hp hR
    rw [if_neg (by simp)] at hR
    obtain ⟨CH, rfl⟩ : ∃ n : Nat, ch = (n : Int) := ⟨ch.toNat, by omega⟩
    obtain ⟨N, rfl⟩ : ∃ n : Nat, bi = (n : Int) := ⟨bi.toNat, by omega⟩
    have h1 : 1 ≤ CH := by omega
    have h8 : CH ≤ 8 := by omega
    have hN1 : 8 ≤ N := by omega
    have hN2 : N ≤ 24 := by omega
    simp only [Int.toNat_natCast] at hR ⊢
    have HR := hid hR
    clear hr hrr hR
    have ht : ((l.length : Int)).tmod (CH : Int) = ((l.length % CH : Nat) : Int) := by rw [Int.tmod_eq_emod_of_nonneg (by omega)]; simp
    obtain ⟨M, hM⟩ : ∃ M, M = l.length % CH := ⟨_, rfl⟩
    rw [← hM] at ht HR
    have HM := hid hM
    clear hM
    by_cases hm : M = 0
    case neg =>
      obtain rfl : R = 22 := by rw [HR.out, if_pos hm]
      have dm : ((M : Int) != 0) = true := by simp [hm]
      clear HR hm HM
      go_enter Try.func19, Try.ntmps19
      go_wp2_with fail
      generalize (w.alloc (.cells #[.int .i64 (CH : Int), .int .i64 (N : Int), .int .i64 ra] 23)).alloc (.cells #[.int .i64 0, .int .i64 0, .int .i64 0, .slice none 0 0] 26) = w2 at *
      refine (hp.out _).mono ?_
      rintro e w3 ⟨rfl, hb3⟩
      replace r1 := (hb3.block _ (by omega)).trans r1
      replace hb := hb.trans (hb3.mono hb.size)
      replace f0 := keep1 hb3 f0
      clear hb3 r0
      go_wp2_with first | (refine wpList_store_row rfl 26 (.tmp 4) (.tmp 18) rfl rfl (w.heap.size + 1) rfl #[.int .i64 0, .int .i64 0, .int .i64 0, .slice none 0 0] rfl 26 #[.int .i64 0, .int .i64 0, .int .i64 0, .slice none 0 0] r1 (by kernel_rfl) rfl (by simp [Value.oneCell']) ?_)
      exact bodyPost_ret (v := .tuple #[.agg #[.int .i64 0, .int .i64 0, .int .i64 0, .slice none 0 0], .int .i64 22]) (results_row_tmp (fn := Try.f19) (p := 4) (u := 5) (ty := 26) rfl _ _ (w.heap.size + 1) _ _ _ _ rfl (setRow_heap _ _ _ _ _ _ r1) Try.underlying26 rfl (by kernel_rfl)) rfl (by
        unfold SndPost
        rw [if_neg (by omega)]
        exact ⟨rfl, below_setRow hb (by omega) _⟩)
    have dm : ((M : Int) != 0) = false := by simp [hm]
    have HZ := hid hm
    clear hm
    obtain ⟨n, hnn⟩ : ∃ n, n = l.length / CH := ⟨_, rfl⟩
    have htq : ((l.length : Int)).tdiv (CH : Int) = (n : Int) := by rw [Int.tdiv_eq_ediv_of_nonneg (by omega), hnn]; simp
    have hnl : n ≤ 4294967296 := by rw [hnn]; exact Nat.le_trans (Nat.div_le_self _ _) hlen
    have hn : l.length = n * CH := by
      have h0 : l.length % CH = 0 := by rw [← HM.out, HZ.out]
      have := Nat.div_add_mod l.length CH
      rw [h0, Nat.add_zero, Nat.mul_comm, ← hnn] at this
      exact this.symm
    have HN := hid hn
    have HNN := hid hnn
    clear hn hnn
    have HSIL := hid (fun W => rsil_any CH n N ra W h8 (by omega))
    go_enter Try.func19, Try.ntmps19
    go_wp2_with fail
    generalize (w.alloc (.cells #[.int .i64 (CH : Int), .int .i64 (N : Int), .int .i64 ra] 23)).alloc (.cells #[.int .i64 0, .int .i64 0, .int .i64 0, .slice none 0 0] 26) = w2 at *
    refine (hp.out _).mono ?_
    rintro e w3 ⟨rfl, hb3⟩
    replace r0 := (hb3.block _ (by omega)).trans r0
    replace r1 := (hb3.block _ (by omega)).trans r1
    replace hb := hb.trans (hb3.mono hb.size)
    replace hs := Nat.le_trans hs hb3.size
    replace f0 := keep1 hb3 f0
    replace hl0 := hl0.below hb3
    clear hb3
    go_wp2_with fail
    clear f0
    · skip
      refine wp_region_held_drew (S := fun w' => w'.heap[w.heap.size]? = some (.cells #[.int .i64 (CH : Int), .int .i64 (N : Int), .int .i64 ra] 23 (0, 0))) (by kernel_rfl) r0 (fun hHeld => ?_)
      replace r0 : w3.drew.heap[w.heap.size]? = some (.cells #[.int .i64 (CH : Int), .int .i64 (N : Int), .int .i64 ra] 23 (0, 0)) := r0
      replace r1 : w3.drew.heap[w.heap.size + 1]? = some (.cells #[.int .i64 0, .int .i64 0, .int .i64 0, .slice none 0 0] 26 (0, 0)) := r1
      replace hl0 : SeesI w3.drew A l := hl0
      replace hb : Below w.heap.size w w3.drew := hb.drew
      replace hs : w.heap.size + 2 ≤ w3.drew.heap.size := hs
      generalize w3.drew = wd at *
      have hsd : w.heap.size + 2 ≤ wd.heap.size := hs
      refine wpAnyH_takeD (i := 1) (d := some 20) (v := ?v100) rfl rfl (by kernel_rfl) (by kernel_rfl) (by kernel_rfl) (fun _ _ _ h => h) (Or.inl ⟨by rfl, ?hy100⟩) hHeld ?rest100
      case hy100 =>
        intro wS hS
        go_simp
        all_goals with_reducible rfl
      (try simp only [Act.put, List.setIfInBounds_toArray, List.set_cons_zero, List.set_cons_succ])
      refine wpAnyH_takeD (i := 3) (d := some 22) (v := ?v101) rfl rfl (by kernel_rfl) (by kernel_rfl) (by kernel_rfl) (fun _ _ _ h => h) (Or.inl ⟨by rfl, ?hy101⟩) hHeld ?rest101
      case hy101 =>
        intro wS hS
        go_simp
        all_goals with_reducible rfl
      (try simp only [Act.put, List.setIfInBounds_toArray, List.set_cons_zero, List.set_cons_succ])
      refine wpAnyH_takeD (i := 0) (d := some 19) (v := .agg #[.int .i64 (CH : Int), .int .i64 (N : Int), .int .i64 ra]) rfl rfl (by kernel_rfl) (by kernel_rfl) (by kernel_rfl) (fun _ _ _ h => h) (Or.inl ⟨by rfl, ?hy102⟩) hHeld ?rest102
      case hy102 =>
        intro wS hS
        exact run_load_rowop 23 (.tmp 2) rfl w.heap.size (by rfl) #[.int .i64 (CH : Int), .int .i64 (N : Int), .int .i64 ra] _ _ hS _ Try.underlying23 rfl (by kernel_rfl)
      (try simp only [Act.put, List.setIfInBounds_toArray, List.set_cons_zero, List.set_cons_succ])
      refine wpAnyH_takeD (i := 4) (d := some 23) (v := ?v103) rfl rfl (by kernel_rfl) (by kernel_rfl) (by kernel_rfl) (fun _ _ _ h => h) (Or.inl ⟨by rfl, ?hy103⟩) hHeld ?rest103
      case hy103 =>
        intro wS hS
        have e0 : wS.cell? ⟨w.heap.size, 0, none⟩ = some (.int .i64 (CH : Int)) := by rw [cell_of_row _ _ _ _ _ _ hS]; rfl
        go_simp
        all_goals with_reducible rfl
      (try simp only [Act.put, List.setIfInBounds_toArray, List.set_cons_zero, List.set_cons_succ])
      refine wpAnyH_takeD (i := 2) (d := some 21) (v := ?v104) rfl rfl (by kernel_rfl) (by kernel_rfl) (by kernel_rfl) (fun _ _ _ h => h) (Or.inl ⟨by rfl, ?hy104⟩) hHeld ?rest104
      case hy104 =>
        intro wS hS
        go_simp
        all_goals with_reducible rfl
      (try simp only [Act.put, List.setIfInBounds_toArray, List.set_cons_zero, List.set_cons_succ])
      refine wpAnyH_takeD (i := 5) (d := some 24) (v := ?v105) rfl rfl (by kernel_rfl) (by kernel_rfl) (by kernel_rfl) (fun _ _ _ h => h) (Or.inl ⟨by rfl, ?hy105⟩) hHeld ?rest105
      case hy105 =>
        intro wS hS
        have hz0 : ¬ CH = 0 := by omega
        have hzw : IntKind.i64.wrap (n : Int) = (n : Int) := by rw [IntKind.wrap_i64]; omega
        go_simp
        all_goals with_reducible rfl
      (try simp only [Act.put, List.setIfInBounds_toArray, List.set_cons_zero, List.set_cons_succ])
      refine wpAnyH_ready (rs := [6, 7]) (by kernel_rfl) (by simp) (AllReadyH.cons rfl (fun K hK => ?_) (AllReadyH.cons rfl (fun K hK => ?_) AllReadyH.nil))
      · rw [if_pos (by rfl)]
        go_simp
        refine (HSIL.out wd).mono ?_
        rintro e w4 ⟨As, cs, gs, rfl, hgl, hos, hG, hGB, hb4⟩
        replace r0 := (hb4.block _ (by omega)).trans r0
        replace r1 := (hb4.block _ (by omega)).trans r1
        replace hl0 := hl0.below hb4
        replace hb := hb.trans (hb4.mono hb.size)
        replace hs := Nat.le_trans hs hb4.size
        have hne4 := hb4.size
        clear hb4
        go_wp2_with fail
        refine hK.out _ _ r0 (fun hHeld => ?_)
        clear hK K
        (try simp only [Act.put, List.setIfInBounds_toArray, List.set_cons_zero, List.set_cons_succ])
        refine wpAnyH_ready (rs := [7]) (by kernel_rfl) (by simp) (AllReadyH.cons rfl (fun K hK => ?_) AllReadyH.nil)
        rw [if_pos (by rfl)]
        have hb5 : Below w4.heap.size w4 (w4.alloc (.cells #[.int .i64 0, .int .i64 0, .int .i64 0, .slice none 0 0] 26)) := (Below.refl _ _).alloc (Nat.le_refl _) _
        have rS := heap_alloc_new w4 (.cells #[.int .i64 0, .int .i64 0, .int .i64 0, .slice none 0 0] 26)
        have hGlt := hG.lt
        go_simp
        obtain ⟨gS, hgS⟩ : ∃ gS, gS = w4.heap.size := ⟨_, rfl⟩
        rw [← hgS] at rS ⊢
        replace r0 := (hb5.block _ (by omega)).trans r0
        replace r1 := (hb5.block _ (by omega)).trans r1
        replace hl0 := hl0.below hb5
        replace hb := hb.trans (hb5.mono hb.size)
        replace hs := Nat.le_trans hs hb5.size
        replace hos := own_keep' hos hb5
        replace hG := hG.keep hb5
        have hGN : ∀ g ∈ gs, g ≠ gS ∧ w.heap.size + 2 ≤ g := fun g hg => by have := hGlt g hg; have := hGB g hg; omega
        obtain ⟨B, hB⟩ : ∃ B, B = wd.heap.size + 3 := ⟨_, rfl⟩
        rw [← hB] at hos
        have hB2 : w.heap.size + 2 ≤ B := by omega
        have hgS2 : w.heap.size + 2 ≤ gS := by omega
        have hoS : (Value.slice As CH cs).ownBlock ≠ some gS := own_other hos rS (by decide)
        clear hb5 hGB hGlt hne4 hgS hB
        generalize w4.alloc (.cells #[.int .i64 0, .int .i64 0, .int .i64 0, .slice none 0 0] 26) = w5 at *
        refine hK.out _ _ r0 (fun hHeld => ?_)
        clear hK K
        (try simp only [Act.put, List.setIfInBounds_toArray, List.set_cons_zero, List.set_cons_succ])
        refine wpAnyH_ready (rs := [8]) (by kernel_rfl) (by simp) (AllReadyH.cons rfl (fun K hK => ?_) AllReadyH.nil)
        rw [if_pos (by rfl)]
        refine wp_store_row 26 (.tmp 6) (.tmp 25) rfl rfl gS rfl #[.int .i64 (CH : Int), .int .i64 (N : Int), .int .i64 ra, .slice As CH cs] rfl 26 #[.int .i64 0, .int .i64 0, .int .i64 0, .slice none 0 0] rS (by kernel_rfl) rfl (by simp [Value.oneCell']) ?_
        have hPS : PartS w A l CH N ra gS As cs gs (fillR l CH n 0) B (w5.setRow gS #[.int .i64 (CH : Int), .int .i64 (N : Int), .int .i64 ra, .slice As CH cs]) := partS_begin r0 r1 hl0 hb rS hos hG hGN hgS2 hB2 hoS hgl hA
        refine hK.out _ _ hPS.r0 (fun hHeld => ?_)
        clear hK K
        (try simp only [Act.put, List.setIfInBounds_toArray, List.set_cons_zero, List.set_cons_succ])
        clear r0 r1 hl0 hb rS hos hG hGN hoS hs
        refine wpAnyH_done (by kernel_rfl) ?_ _
        generalize w5.setRow gS #[.int .i64 (CH : Int), .int .i64 (N : Int), .int .i64 ra, .slice As CH cs] = w6 at *
        go_wp2_with fail
        clear hHeld
        go_loopw [7] (fun iv wr => ∃ i : Nat, i ≤ l.length ∧ iv = .int .i64 (i : Int) ∧ PartS w A l CH N ra gS As cs gs (fillR l CH n i) B wr ∧ Hid (loudI N l = loudI N (l.drop i))) (fun iv _ => l.length - (intOf iv).toNat)
        case atStart => exact ⟨0, by omega, rfl, hPS, hid rfl⟩
        case round =>
          clear hPS
          obtain ⟨i, hi, rfl, hP, hE⟩ := hrel
          have c0 : wr.cell? ⟨w.heap.size, 0, none⟩ = some (.int .i64 (CH : Int)) := by rw [cell_of_row _ _ _ _ _ _ hP.r0]; rfl
          have c1 : wr.cell? ⟨w.heap.size, 1, none⟩ = some (.int .i64 (N : Int)) := by rw [cell_of_row _ _ _ _ _ _ hP.r0]; rfl
          by_cases hil : i < l.length
          · have dl : decide ((i : Int) < (l.length : Int)) = true := decide_eq_true (by omega)
            have cl : (i : Int) < (l.length : Int) := by omega
            have HCX := hid (fun (W : World) (h : PartS w A l CH N ra gS As cs gs (fillR l CH n (i + 1)) B W) => h.sl i (intV l[i]) (by rw [List.getElem?_map, List.getElem?_eq_getElem hil]; rfl))
            obtain ⟨p, rfl, cx⟩ := hP.sl.at hil
            have HCX0 := hid (fun (W : World) (h : PartS w (some p) l CH N ra gS As cs gs (fillR l CH n i) B W) => show W.cell? (p.add i) = some (.int .i64 l[i]) by obtain ⟨a, ha, hc⟩ := h.sl i (intV l[i]) (by rw [List.getElem?_map, List.getElem?_eq_getElem hil]; rfl); injection ha with ha; subst ha; exact hc)
            replace HCX := hid (fun (W : World) (h : PartS w (some p) l CH N ra gS As cs gs (fillR l CH n (i + 1)) B W) => show W.cell? (p.add i) = some (.int .i64 l[i]) by obtain ⟨a, ha, hc⟩ := HCX.out W h; injection ha with ha; subst ha; exact hc)
            have HLD := hid (show loudI N (l.drop i) = (!fitsB l[i] N || loudI N (l.drop (i + 1))) by rw [List.drop_eq_getElem_cons hil]; rfl)
            have HXX := hid (show l.getD i 0 = l[i] by simp [List.getD, hil])
            generalize l[i] = X at *
            have hf := rfits_any X N
            cases hy : fitsB X N with
            | false =>
              rw [hy] at hf HLD
              obtain rfl : R = 21 := by rw [HR.out, if_neg (by rw [HZ.out]; simp), if_pos (by rw [hE.out, HLD.out]; rfl)]
              have r1 := hP.r1
              have hb := hP.b
              clear HR hP
              go_wp2_with fail
              go_quiet ((go_at_call 36; exact Calls.quiet_of_same (same (hf _ hN1 hN2))))
              replace hb := drewBelow hb nq
              replace r1 : (wr.drewN nq).heap[w.heap.size + 1]? = some (.cells #[.int .i64 0, .int .i64 0, .int .i64 0, .slice none 0 0] 26 (0, 0)) := r1
              clear c0 c1 cx
              go_wp2_with first | (refine wpList_store_row rfl 26 (.tmp 4) (.tmp 40) rfl rfl (w.heap.size + 1) rfl #[.int .i64 0, .int .i64 0, .int .i64 0, .slice none 0 0] rfl 26 #[.int .i64 0, .int .i64 0, .int .i64 0, .slice none 0 0] r1 (by kernel_rfl) rfl (by simp [Value.oneCell']) ?_)
              exact bodyPost_ret (v := .tuple #[.agg #[.int .i64 0, .int .i64 0, .int .i64 0, .slice none 0 0], .int .i64 21]) (results_row_tmp (fn := Try.f19) (p := 4) (u := 5) (ty := 26) rfl _ _ (w.heap.size + 1) _ _ _ _ rfl (setRow_heap _ _ _ _ _ _ r1) Try.underlying26 rfl (by kernel_rfl)) rfl (by unfold SndPost; rw [if_neg (by omega)]; exact ⟨rfl, below_setRow hb (by omega) _⟩)
            | true =>
              rw [hy] at hf HLD
              go_wp2_with fail
              go_quiet ((go_at_call 36; exact Calls.quiet_of_same (same (hf _ hN1 hN2))))
              go_wp2_with fail
              clear c0 c1 cx
              replace hP := hP.drewN nq
              generalize wr.drewN nq = wr at *
              have hgl2 := hP.gl
              obtain ⟨r, hrr0⟩ : ∃ r, r = i % CH := ⟨_, rfl⟩
              obtain ⟨q, hqq0⟩ : ∃ q, q = i / CH := ⟨_, rfl⟩
              have HRR := hid hrr0
              have HQQ := hid hqq0
              have hrc : r < CH := by rw [hrr0]; exact Nat.mod_lt _ (by omega)
              have hqn : q < n := by rw [hqq0]; exact Nat.div_lt_of_lt_mul (by rw [Nat.mul_comm, ← HN.out]; exact hil)
              have htm : ((i : Int)).tmod (CH : Int) = (r : Int) := by rw [Int.tmod_eq_emod_of_nonneg (by omega), hrr0]; simp
              have htd : ((i : Int)).tdiv (CH : Int) = (q : Int) := by rw [Int.tdiv_eq_ediv_of_nonneg (by omega), hqq0]; simp
              clear hrr0 hqq0
              have hz0 : ¬ CH = 0 := by omega
              have hrl : r < gs.length := by omega
              obtain ⟨gr, hgr⟩ : ∃ gr, gs[r] = gr := ⟨_, rfl⟩
              have hev : ∀ W, PartS w (some p) l CH N ra gS As cs gs (fillR l CH n (i + 1)) B W → ∃ a, As = some a ∧ W.cell? (a.add r) = some (.slice (some ⟨gr, 0, none⟩) n n) := fun W h => own_sees h.os r _ (by rw [List.getElem?_map, List.getElem?_eq_getElem hrl, hgr, fillR_len]; rfl)
              obtain ⟨ao, rfl, ce⟩ : ∃ a, As = some a ∧ wr.cell? (a.add r) = some (.slice (some ⟨gr, 0, none⟩) n n) := own_sees hP.os r _ (by rw [List.getElem?_map, List.getElem?_eq_getElem hrl, hgr, fillR_len]; rfl)
              have HCE := hid (fun (W : World) (h : PartS w (some p) l CH N ra gS (some ao) cs gs (fillR l CH n (i + 1)) B W) => show W.cell? (ao.add r) = some (.slice (some ⟨gr, 0, none⟩) n n) by obtain ⟨a, ha, hc⟩ := hev W h; injection ha with ha; subst ha; exact hc)
              clear hev
              have cx : wr.cell? (p.add i) = some (.int .i64 X) := HCX0.out _ hP
              have c0 : wr.cell? ⟨w.heap.size, 0, none⟩ = some (.int .i64 (CH : Int)) := by rw [cell_of_row _ _ _ _ _ _ hP.r0]; rfl
              have cS : wr.cell? ⟨gS, 3, none⟩ = some (.slice (some ao) CH cs) := by rw [cell_of_row _ _ _ _ _ _ hP.rS]; rfl
              have crc : (r : Int) < (CH : Int) := by omega
              have cqn : (q : Int) < (n : Int) := by omega
              refine wp_region_held_drew (S := fun w' => w'.cell? ⟨gS, 3, none⟩ = some (.slice (some ao) CH cs) ∧ w'.cell? (ao.add r) = some (.slice (some ⟨gr, 0, none⟩) n n) ∧ w'.cell? ⟨w.heap.size, 0, none⟩ = some (.int .i64 (CH : Int)) ∧ w'.cell? (p.add i) = some (.int .i64 X)) (by kernel_rfl) ⟨cS, ce, c0, cx⟩ (fun hHeld => ?_)
              have hPd := hP.drew
              clear hP
              generalize wr.drew = wd at *
              refine wpAnyH_takeD (i := 0) (d := some 41) (v := ?v106) rfl rfl (by kernel_rfl) (by kernel_rfl) (by kernel_rfl) (fun _ _ _ h => h) (Or.inl ⟨by rfl, ?hy106⟩) hHeld ?rest106
              case hy106 =>
                intro wS hS
                go_simp
                all_goals with_reducible rfl
              (try simp only [Act.put, List.setIfInBounds_toArray, List.set_cons_zero, List.set_cons_succ])
              refine wpAnyH_takeD (i := 2) (d := some 43) (v := ?v107) rfl rfl (by kernel_rfl) (by kernel_rfl) (by kernel_rfl) (fun _ _ _ h => h) (Or.inl ⟨by rfl, ?hy107⟩) hHeld ?rest107
              case hy107 =>
                intro wS hS
                go_simp
                all_goals with_reducible rfl
              (try simp only [Act.put, List.setIfInBounds_toArray, List.set_cons_zero, List.set_cons_succ])
              refine wpAnyH_takeD (i := 3) (d := some 44) (v := ?v108) rfl rfl (by kernel_rfl) (by kernel_rfl) (by kernel_rfl) (fun _ _ _ h => h) (Or.inl ⟨by rfl, ?hy108⟩) hHeld ?rest108
              case hy108 =>
                intro wS hS
                go_simp
                all_goals with_reducible rfl
              (try simp only [Act.put, List.setIfInBounds_toArray, List.set_cons_zero, List.set_cons_succ])
              refine wpAnyH_takeD (i := 8) (d := some 49) (v := ?v109) rfl rfl (by kernel_rfl) (by kernel_rfl) (by kernel_rfl) (fun _ _ _ h => h) (Or.inl ⟨by rfl, ?hy109⟩) hHeld ?rest109
              case hy109 =>
                intro wS hS
                go_simp
                all_goals with_reducible rfl
              (try simp only [Act.put, List.setIfInBounds_toArray, List.set_cons_zero, List.set_cons_succ])
              refine wpAnyH_takeD (i := 9) (d := some 50) (v := ?v110) rfl rfl (by kernel_rfl) (by kernel_rfl) (by kernel_rfl) (fun _ _ _ h => h) (Or.inl ⟨by rfl, ?hy110⟩) hHeld ?rest110
              case hy110 =>
                intro wS hS
                go_simp
                all_goals with_reducible rfl
              (try simp only [Act.put, List.setIfInBounds_toArray, List.set_cons_zero, List.set_cons_succ])
              refine wpAnyH_takeD (i := 12) (d := some 53) (v := ?v111) rfl rfl (by kernel_rfl) (by kernel_rfl) (by kernel_rfl) (fun _ _ _ h => h) (Or.inl ⟨by rfl, ?hy111⟩) hHeld ?rest111
              case hy111 =>
                intro wS hS
                go_simp
                all_goals with_reducible rfl
              (try simp only [Act.put, List.setIfInBounds_toArray, List.set_cons_zero, List.set_cons_succ])
              refine wpAnyH_takeD (i := 13) (d := some 54) (v := ?v112) rfl rfl (by kernel_rfl) (by kernel_rfl) (by kernel_rfl) (fun _ _ _ h => h) (Or.inl ⟨by rfl, ?hy112⟩) hHeld ?rest112
              case hy112 =>
                intro wS hS
                go_simp
                all_goals with_reducible rfl
              (try simp only [Act.put, List.setIfInBounds_toArray, List.set_cons_zero, List.set_cons_succ])
              refine wpAnyH_takeD (i := 1) (d := some 42) (v := ?v113) rfl rfl (by kernel_rfl) (by kernel_rfl) (by kernel_rfl) (fun _ _ _ h => h) (Or.inl ⟨by rfl, ?hy113⟩) hHeld ?rest113
              case hy113 =>
                intro wS hS
                obtain ⟨e1, e2, e3, e4⟩ := hS
                go_simp
                all_goals with_reducible rfl
              (try simp only [Act.put, List.setIfInBounds_toArray, List.set_cons_zero, List.set_cons_succ])
              refine wpAnyH_takeD (i := 4) (d := some 45) (v := ?v114) rfl rfl (by kernel_rfl) (by kernel_rfl) (by kernel_rfl) (fun _ _ _ h => h) (Or.inl ⟨by rfl, ?hy114⟩) hHeld ?rest114
              case hy114 =>
                intro wS hS
                obtain ⟨e1, e2, e3, e4⟩ := hS
                go_simp
                all_goals with_reducible rfl
              (try simp only [Act.put, List.setIfInBounds_toArray, List.set_cons_zero, List.set_cons_succ])
              refine wpAnyH_takeD (i := 10) (d := some 51) (v := ?v115) rfl rfl (by kernel_rfl) (by kernel_rfl) (by kernel_rfl) (fun _ _ _ h => h) (Or.inl ⟨by rfl, ?hy115⟩) hHeld ?rest115
              case hy115 =>
                intro wS hS
                obtain ⟨e1, e2, e3, e4⟩ := hS
                go_simp
                all_goals with_reducible rfl
              (try simp only [Act.put, List.setIfInBounds_toArray, List.set_cons_zero, List.set_cons_succ])
              refine wpAnyH_takeD (i := 5) (d := some 46) (v := ?v116) rfl rfl (by kernel_rfl) (by kernel_rfl) (by kernel_rfl) (fun _ _ _ h => h) (Or.inl ⟨by rfl, ?hy116⟩) hHeld ?rest116
              case hy116 =>
                intro wS hS
                go_simp
                all_goals with_reducible rfl
              (try simp only [Act.put, List.setIfInBounds_toArray, List.set_cons_zero, List.set_cons_succ])
              refine wpAnyH_takeD (i := 11) (d := some 52) (v := ?v117) rfl rfl (by kernel_rfl) (by kernel_rfl) (by kernel_rfl) (fun _ _ _ h => h) (Or.inl ⟨by rfl, ?hy117⟩) hHeld ?rest117
              case hy117 =>
                intro wS hS
                have hzw : IntKind.i64.wrap (q : Int) = (q : Int) := by rw [IntKind.wrap_i64]; omega
                go_simp
                all_goals with_reducible rfl
              (try simp only [Act.put, List.setIfInBounds_toArray, List.set_cons_zero, List.set_cons_succ])
              refine wpAnyH_takeD (i := 6) (d := some 47) (v := ?v118) rfl rfl (by kernel_rfl) (by kernel_rfl) (by kernel_rfl) (fun _ _ _ h => h) (Or.inl ⟨by rfl, ?hy118⟩) hHeld ?rest118
              case hy118 =>
                intro wS hS
                go_simp
                all_goals with_reducible rfl
              (try simp only [Act.put, List.setIfInBounds_toArray, List.set_cons_zero, List.set_cons_succ])
              refine wpAnyH_takeD (i := 14) (d := some 55) (v := ?v119) rfl rfl (by kernel_rfl) (by kernel_rfl) (by kernel_rfl) (fun _ _ _ h => h) (Or.inl ⟨by rfl, ?hy119⟩) hHeld ?rest119
              case hy119 =>
                intro wS hS
                go_simp
                all_goals with_reducible rfl
              (try simp only [Act.put, List.setIfInBounds_toArray, List.set_cons_zero, List.set_cons_succ])
              refine wpAnyH_takeD (i := 7) (d := some 48) (v := ?v120) rfl rfl (by kernel_rfl) (by kernel_rfl) (by kernel_rfl) (fun _ _ _ h => h) (Or.inl ⟨by rfl, ?hy120⟩) hHeld ?rest120
              case hy120 =>
                intro wS hS
                obtain ⟨e1, e2, e3, e4⟩ := hS
                go_simp
                all_goals with_reducible rfl
              (try simp only [Act.put, List.setIfInBounds_toArray, List.set_cons_zero, List.set_cons_succ])
              refine wpAnyH_takeD (i := 15) (d := some 56) (v := ?v121) rfl rfl (by kernel_rfl) (by kernel_rfl) (by kernel_rfl) (fun _ _ _ h => h) (Or.inl ⟨by rfl, ?hy121⟩) hHeld ?rest121
              case hy121 =>
                intro wS hS
                obtain ⟨e1, e2, e3, e4⟩ := hS
                go_simp
                all_goals with_reducible rfl
              (try simp only [Act.put, List.setIfInBounds_toArray, List.set_cons_zero, List.set_cons_succ])
              refine wpAnyH_takeD (i := 16) (d := some 57) (v := ?v122) rfl rfl (by kernel_rfl) (by kernel_rfl) (by kernel_rfl) (fun _ _ _ h => h) (Or.inl ⟨by rfl, ?hy122⟩) hHeld ?rest122
              case hy122 =>
                intro wS hS
                go_simp
                all_goals with_reducible rfl
              (try simp only [Act.put, List.setIfInBounds_toArray, List.set_cons_zero, List.set_cons_succ])
              refine wpAnyH_ready (rs := [17]) (by kernel_rfl) (by simp) (AllReadyH.cons rfl (fun K hK => ?_) AllReadyH.nil)
              rw [if_pos (by rfl)]
              have kg := hPd.G.1 r hrl
              rw [hgr] at kg
              obtain ⟨y, ky⟩ : ∃ y, wd.cell? ⟨gr, q, none⟩ = some y := by rw [cell_of_row _ _ _ _ _ _ kg]; exact ⟨_, Array.getElem?_eq_getElem (by simp [fillR_len]; omega)⟩
              have kf : wd.frozen? ⟨gr, q, none⟩ = false := frozen_of_row _ _ _ _ _ kg
              have hst := partS_step hPd hA HRR.out HQQ.out (by omega) hrl HXX.out
              rw [hgr] at hst
              have cS' : (wd.setCell ⟨gr, q, none⟩ (.int .i64 X)).cell? ⟨gS, 3, none⟩ = some (.slice (some ao) CH cs) := by rw [cell_of_row _ _ _ _ _ _ hst.rS]; rfl
              have ce' : (wd.setCell ⟨gr, q, none⟩ (.int .i64 X)).cell? (ao.add r) = some (.slice (some ⟨gr, 0, none⟩) n n) := (HCE.out _ hst)
              have c0' : (wd.setCell ⟨gr, q, none⟩ (.int .i64 X)).cell? ⟨w.heap.size, 0, none⟩ = some (.int .i64 (CH : Int)) := by rw [cell_of_row _ _ _ _ _ _ hst.r0]; rfl
              have cx' : (wd.setCell ⟨gr, q, none⟩ (.int .i64 X)).cell? (p.add i) = some (.int .i64 X) := HCX.out _ hst
              clear kg
              go_simp
              refine hK.out _ _ ⟨cS', ce', c0', cx'⟩ (fun hHeld => ?_)
              clear hK K
              (try simp only [Act.put, List.setIfInBounds_toArray, List.set_cons_zero, List.set_cons_succ])
              clear hPd
              refine wpAnyH_done (by kernel_rfl) ?_ _
              generalize wd.setCell ⟨gr, q, none⟩ (.int .i64 X) = we at *
              clear cS cS' ce ce' c0 c0' cx cx' ky kf cl
              go_wp2_with fail
              go_roundw
              case rel => exact ⟨i + 1, by omega, by go_num, hst, hid (by rw [hE.out, HLD.out]; rfl)⟩
              case measure => simp [intOf]; omega
          · obtain rfl : i = l.length := by omega
            have dl : decide ((l.length : Int) < (l.length : Int)) = false := decide_eq_false (by omega)
            have hlo : loudI N l = false := by rw [hE.out, List.drop_length]; rfl
            obtain rfl : R = 0 := by rw [HR.out, if_neg (by rw [HZ.out]; simp), if_neg (by rw [hlo]; simp)]
            have hP2 : PartS w A l CH N ra gS As cs gs (fillR l CH n (n * CH)) B wr := by rw [← HN.out]; exact hP
            have hr1 := hP.r1
            have hbb := hP.b
            have d0 : wr.cell? ⟨gS, 0, none⟩ = some (.int .i64 (CH : Int)) := by rw [cell_of_row _ _ _ _ _ _ hP.rS]; rfl
            have d1 : wr.cell? ⟨gS, 1, none⟩ = some (.int .i64 (N : Int)) := by rw [cell_of_row _ _ _ _ _ _ hP.rS]; rfl
            have d2 : wr.cell? ⟨gS, 2, none⟩ = some (.int .i64 ra) := by rw [cell_of_row _ _ _ _ _ _ hP.rS]; rfl
            have d3 : wr.cell? ⟨gS, 3, none⟩ = some (.slice As CH cs) := by rw [cell_of_row _ _ _ _ _ _ hP.rS]; rfl
            obtain ⟨L, hLl, hsl, hin⟩ := partS_end hP2 hnl
            have HLL := hid hLl
            have HIN := hid hin
            clear hLl hin hlo hP hP2 HR c0 c1
            go_wp2_with first | (refine wpList_store_row rfl 26 (.tmp 4) (.tmp 58) rfl rfl (w.heap.size + 1) rfl #[.int .i64 (CH : Int), .int .i64 (N : Int), .int .i64 ra, .slice As CH cs] rfl 26 #[.int .i64 0, .int .i64 0, .int .i64 0, .slice none 0 0] hr1 (by kernel_rfl) rfl (by simp [Value.oneCell']) ?_)
            exact bodyPost_ret (v := .tuple #[.agg #[.int .i64 (CH : Int), .int .i64 (N : Int), .int .i64 ra, .slice As CH cs], .int .i64 0]) (results_row_tmp (fn := Try.f19) (p := 4) (u := 5) (ty := 26) rfl _ _ (w.heap.size + 1) _ _ _ _ rfl (setRow_heap _ _ _ _ _ _ hr1) Try.underlying26 rfl (by kernel_rfl)) rfl (by unfold SndPost; rw [if_pos rfl]; exact ⟨As, cs, L, by rw [HLL.out], hsl, HIN.out.trans (by rw [HNN.out]), below_setRow hbb (by omega) _⟩)
      · rw [if_pos (by rfl)]
        have hb5 : Below wd.heap.size wd (wd.alloc (.cells #[.int .i64 0, .int .i64 0, .int .i64 0, .slice none 0 0] 26)) := (Below.refl _ _).alloc (Nat.le_refl _) _
        have rS := heap_alloc_new wd (.cells #[.int .i64 0, .int .i64 0, .int .i64 0, .slice none 0 0] 26)
        have hlt5 : wd.heap.size < (wd.alloc (.cells #[.int .i64 0, .int .i64 0, .int .i64 0, .slice none 0 0] 26)).heap.size := (Array.getElem?_eq_some_iff.1 rS).1
        go_simp
        obtain ⟨gS, hgS⟩ : ∃ gS, gS = wd.heap.size := ⟨_, rfl⟩
        rw [← hgS] at rS hlt5 ⊢
        have hgS2 : w.heap.size + 2 ≤ gS := by omega
        replace r0 := (hb5.block _ (by omega)).trans r0
        replace r1 := (hb5.block _ (by omega)).trans r1
        replace hl0 := hl0.below hb5
        replace hb := hb.trans (hb5.mono hb.size)
        replace hs := Nat.le_trans hs hb5.size
        clear hb5 hgS
        generalize wd.alloc (.cells #[.int .i64 0, .int .i64 0, .int .i64 0, .slice none 0 0] 26) = we at *
        refine hK.out _ _ r0 (fun hHeld => ?_)
        clear hK K
        (try simp only [Act.put, List.setIfInBounds_toArray, List.set_cons_zero, List.set_cons_succ])
        refine wpAnyH_ready (rs := [6]) (by kernel_rfl) (by simp) (AllReadyH.cons rfl (fun K hK => ?_) AllReadyH.nil)
        rw [if_pos (by rfl)]
        go_simp
        refine (HSIL.out we).mono ?_
        rintro e w5 ⟨As, cs, gs, rfl, hgl, hos, hG, hGB, hb4⟩
        replace rS := (hb4.block _ hlt5).trans rS
        replace r0 := (hb4.block _ (by omega)).trans r0
        replace r1 := (hb4.block _ (by omega)).trans r1
        replace hl0 := hl0.below hb4
        replace hb := hb.trans (hb4.mono hb.size)
        replace hs := Nat.le_trans hs hb4.size
        clear hb4
        have hGN : ∀ g ∈ gs, g ≠ gS ∧ w.heap.size + 2 ≤ g := fun g hg => by have := hGB g hg; omega
        obtain ⟨B, hB⟩ : ∃ B, B = we.heap.size + 3 := ⟨_, rfl⟩
        rw [← hB] at hos
        have hB2 : w.heap.size + 2 ≤ B := by omega
        have hoS : (Value.slice As CH cs).ownBlock ≠ some gS := own_other hos rS (by decide)
        clear hGB hlt5 hB
        go_wp2_with fail
        refine hK.out _ _ r0 (fun hHeld => ?_)
        clear hK K
        (try simp only [Act.put, List.setIfInBounds_toArray, List.set_cons_zero, List.set_cons_succ])
        refine wpAnyH_ready (rs := [8]) (by kernel_rfl) (by simp) (AllReadyH.cons rfl (fun K hK => ?_) AllReadyH.nil)
        rw [if_pos (by rfl)]
        refine wp_store_row 26 (.tmp 6) (.tmp 25) rfl rfl gS rfl #[.int .i64 (CH : Int), .int .i64 (N : Int), .int .i64 ra, .slice As CH cs] rfl 26 #[.int .i64 0, .int .i64 0, .int .i64 0, .slice none 0 0] rS (by kernel_rfl) rfl (by simp [Value.oneCell']) ?_
        have hPS : PartS w A l CH N ra gS As cs gs (fillR l CH n 0) B (w5.setRow gS #[.int .i64 (CH : Int), .int .i64 (N : Int), .int .i64 ra, .slice As CH cs]) := partS_begin r0 r1 hl0 hb rS hos hG hGN hgS2 hB2 hoS hgl hA
        refine hK.out _ _ hPS.r0 (fun hHeld => ?_)
        clear hK K
        (try simp only [Act.put, List.setIfInBounds_toArray, List.set_cons_zero, List.set_cons_succ])
        clear r0 r1 hl0 hb rS hos hG hGN hoS hs
        refine wpAnyH_done (by kernel_rfl) ?_ _
        generalize w5.setRow gS #[.int .i64 (CH : Int), .int .i64 (N : Int), .int .i64 ra, .slice As CH cs] = w6 at *
        go_wp2_with fail
        clear hHeld
        go_loopw [7] (fun iv wr => ∃ i : Nat, i ≤ l.length ∧ iv = .int .i64 (i : Int) ∧ PartS w A l CH N ra gS As cs gs (fillR l CH n i) B wr ∧ Hid (loudI N l = loudI N (l.drop i))) (fun iv _ => l.length - (intOf iv).toNat)
        case atStart => exact ⟨0, by omega, rfl, hPS, hid rfl⟩
        case round =>
          clear hPS
          obtain ⟨i, hi, rfl, hP, hE⟩ := hrel
          have c0 : wr.cell? ⟨w.heap.size, 0, none⟩ = some (.int .i64 (CH : Int)) := by rw [cell_of_row _ _ _ _ _ _ hP.r0]; rfl
          have c1 : wr.cell? ⟨w.heap.size, 1, none⟩ = some (.int .i64 (N : Int)) := by rw [cell_of_row _ _ _ _ _ _ hP.r0]; rfl
          by_cases hil : i < l.length
          · have dl : decide ((i : Int) < (l.length : Int)) = true := decide_eq_true (by omega)
            have cl : (i : Int) < (l.length : Int) := by omega
            have HCX := hid (fun (W : World) (h : PartS w A l CH N ra gS As cs gs (fillR l CH n (i + 1)) B W) => h.sl i (intV l[i]) (by rw [List.getElem?_map, List.getElem?_eq_getElem hil]; rfl))
            obtain ⟨p, rfl, cx⟩ := hP.sl.at hil
            have HCX0 := hid (fun (W : World) (h : PartS w (some p) l CH N ra gS As cs gs (fillR l CH n i) B W) => show W.cell? (p.add i) = some (.int .i64 l[i]) by obtain ⟨a, ha, hc⟩ := h.sl i (intV l[i]) (by rw [List.getElem?_map, List.getElem?_eq_getElem hil]; rfl); injection ha with ha; subst ha; exact hc)
            replace HCX := hid (fun (W : World) (h : PartS w (some p) l CH N ra gS As cs gs (fillR l CH n (i + 1)) B W) => show W.cell? (p.add i) = some (.int .i64 l[i]) by obtain ⟨a, ha, hc⟩ := HCX.out W h; injection ha with ha; subst ha; exact hc)
            have HLD := hid (show loudI N (l.drop i) = (!fitsB l[i] N || loudI N (l.drop (i + 1))) by rw [List.drop_eq_getElem_cons hil]; rfl)
            have HXX := hid (show l.getD i 0 = l[i] by simp [List.getD, hil])
            generalize l[i] = X at *
            have hf := rfits_any X N
            cases hy : fitsB X N with
            | false =>
              rw [hy] at hf HLD
              obtain rfl : R = 21 := by rw [HR.out, if_neg (by rw [HZ.out]; simp), if_pos (by rw [hE.out, HLD.out]; rfl)]
              have r1 := hP.r1
              have hb := hP.b
              clear HR hP
              go_wp2_with fail
              go_quiet ((go_at_call 36; exact Calls.quiet_of_same (same (hf _ hN1 hN2))))
              replace hb := drewBelow hb nq
              replace r1 : (wr.drewN nq).heap[w.heap.size + 1]? = some (.cells #[.int .i64 0, .int .i64 0, .int .i64 0, .slice none 0 0] 26 (0, 0)) := r1
              clear c0 c1 cx
              go_wp2_with first | (refine wpList_store_row rfl 26 (.tmp 4) (.tmp 40) rfl rfl (w.heap.size + 1) rfl #[.int .i64 0, .int .i64 0, .int .i64 0, .slice none 0 0] rfl 26 #[.int .i64 0, .int .i64 0, .int .i64 0, .slice none 0 0] r1 (by kernel_rfl) rfl (by simp [Value.oneCell']) ?_)
              exact bodyPost_ret (v := .tuple #[.agg #[.int .i64 0, .int .i64 0, .int .i64 0, .slice none 0 0], .int .i64 21]) (results_row_tmp (fn := Try.f19) (p := 4) (u := 5) (ty := 26) rfl _ _ (w.heap.size + 1) _ _ _ _ rfl (setRow_heap _ _ _ _ _ _ r1) Try.underlying26 rfl (by kernel_rfl)) rfl (by unfold SndPost; rw [if_neg (by omega)]; exact ⟨rfl, below_setRow hb (by omega) _⟩)
            | true =>
              rw [hy] at hf HLD
              go_wp2_with fail
              go_quiet ((go_at_call 36; exact Calls.quiet_of_same (same (hf _ hN1 hN2))))
              go_wp2_with fail
              clear c0 c1 cx
              replace hP := hP.drewN nq
              generalize wr.drewN nq = wr at *
              have hgl2 := hP.gl
              obtain ⟨r, hrr0⟩ : ∃ r, r = i % CH := ⟨_, rfl⟩
              obtain ⟨q, hqq0⟩ : ∃ q, q = i / CH := ⟨_, rfl⟩
              have HRR := hid hrr0
              have HQQ := hid hqq0
              have hrc : r < CH := by rw [hrr0]; exact Nat.mod_lt _ (by omega)
              have hqn : q < n := by rw [hqq0]; exact Nat.div_lt_of_lt_mul (by rw [Nat.mul_comm, ← HN.out]; exact hil)
              have htm : ((i : Int)).tmod (CH : Int) = (r : Int) := by rw [Int.tmod_eq_emod_of_nonneg (by omega), hrr0]; simp
              have htd : ((i : Int)).tdiv (CH : Int) = (q : Int) := by rw [Int.tdiv_eq_ediv_of_nonneg (by omega), hqq0]; simp
              clear hrr0 hqq0
              have hz0 : ¬ CH = 0 := by omega
              have hrl : r < gs.length := by omega
              obtain ⟨gr, hgr⟩ : ∃ gr, gs[r] = gr := ⟨_, rfl⟩
              have hev : ∀ W, PartS w (some p) l CH N ra gS As cs gs (fillR l CH n (i + 1)) B W → ∃ a, As = some a ∧ W.cell? (a.add r) = some (.slice (some ⟨gr, 0, none⟩) n n) := fun W h => own_sees h.os r _ (by rw [List.getElem?_map, List.getElem?_eq_getElem hrl, hgr, fillR_len]; rfl)
              obtain ⟨ao, rfl, ce⟩ : ∃ a, As = some a ∧ wr.cell? (a.add r) = some (.slice (some ⟨gr, 0, none⟩) n n) := own_sees hP.os r _ (by rw [List.getElem?_map, List.getElem?_eq_getElem hrl, hgr, fillR_len]; rfl)
              have HCE := hid (fun (W : World) (h : PartS w (some p) l CH N ra gS (some ao) cs gs (fillR l CH n (i + 1)) B W) => show W.cell? (ao.add r) = some (.slice (some ⟨gr, 0, none⟩) n n) by obtain ⟨a, ha, hc⟩ := hev W h; injection ha with ha; subst ha; exact hc)
              clear hev
              have cx : wr.cell? (p.add i) = some (.int .i64 X) := HCX0.out _ hP
              have c0 : wr.cell? ⟨w.heap.size, 0, none⟩ = some (.int .i64 (CH : Int)) := by rw [cell_of_row _ _ _ _ _ _ hP.r0]; rfl
              have cS : wr.cell? ⟨gS, 3, none⟩ = some (.slice (some ao) CH cs) := by rw [cell_of_row _ _ _ _ _ _ hP.rS]; rfl
              have crc : (r : Int) < (CH : Int) := by omega
              have cqn : (q : Int) < (n : Int) := by omega
              refine wp_region_held_drew (S := fun w' => w'.cell? ⟨gS, 3, none⟩ = some (.slice (some ao) CH cs) ∧ w'.cell? (ao.add r) = some (.slice (some ⟨gr, 0, none⟩) n n) ∧ w'.cell? ⟨w.heap.size, 0, none⟩ = some (.int .i64 (CH : Int)) ∧ w'.cell? (p.add i) = some (.int .i64 X)) (by kernel_rfl) ⟨cS, ce, c0, cx⟩ (fun hHeld => ?_)
              have hPd := hP.drew
              clear hP
              generalize wr.drew = wd at *
              refine wpAnyH_takeD (i := 0) (d := some 41) (v := ?v606) rfl rfl (by kernel_rfl) (by kernel_rfl) (by kernel_rfl) (fun _ _ _ h => h) (Or.inl ⟨by rfl, ?hy606⟩) hHeld ?rest606
              case hy606 =>
                intro wS hS
                go_simp
                all_goals with_reducible rfl
              (try simp only [Act.put, List.setIfInBounds_toArray, List.set_cons_zero, List.set_cons_succ])
              refine wpAnyH_takeD (i := 2) (d := some 43) (v := ?v607) rfl rfl (by kernel_rfl) (by kernel_rfl) (by kernel_rfl) (fun _ _ _ h => h) (Or.inl ⟨by rfl, ?hy607⟩) hHeld ?rest607
              case hy607 =>
                intro wS hS
                go_simp
                all_goals with_reducible rfl
              (try simp only [Act.put, List.setIfInBounds_toArray, List.set_cons_zero, List.set_cons_succ])
              refine wpAnyH_takeD (i := 3) (d := some 44) (v := ?v608) rfl rfl (by kernel_rfl) (by kernel_rfl) (by kernel_rfl) (fun _ _ _ h => h) (Or.inl ⟨by rfl, ?hy608⟩) hHeld ?rest608
              case hy608 =>
                intro wS hS
                go_simp
                all_goals with_reducible rfl
              (try simp only [Act.put, List.setIfInBounds_toArray, List.set_cons_zero, List.set_cons_succ])
              refine wpAnyH_takeD (i := 8) (d := some 49) (v := ?v609) rfl rfl (by kernel_rfl) (by kernel_rfl) (by kernel_rfl) (fun _ _ _ h => h) (Or.inl ⟨by rfl, ?hy609⟩) hHeld ?rest609
              case hy609 =>
                intro wS hS
                go_simp
                all_goals with_reducible rfl
              (try simp only [Act.put, List.setIfInBounds_toArray, List.set_cons_zero, List.set_cons_succ])
              refine wpAnyH_takeD (i := 9) (d := some 50) (v := ?v610) rfl rfl (by kernel_rfl) (by kernel_rfl) (by kernel_rfl) (fun _ _ _ h => h) (Or.inl ⟨by rfl, ?hy610⟩) hHeld ?rest610
              case hy610 =>
                intro wS hS
                go_simp
                all_goals with_reducible rfl
              (try simp only [Act.put, List.setIfInBounds_toArray, List.set_cons_zero, List.set_cons_succ])
              refine wpAnyH_takeD (i := 12) (d := some 53) (v := ?v611) rfl rfl (by kernel_rfl) (by kernel_rfl) (by kernel_rfl) (fun _ _ _ h => h) (Or.inl ⟨by rfl, ?hy611⟩) hHeld ?rest611
              case hy611 =>
                intro wS hS
                go_simp
                all_goals with_reducible rfl
              (try simp only [Act.put, List.setIfInBounds_toArray, List.set_cons_zero, List.set_cons_succ])
              refine wpAnyH_takeD (i := 13) (d := some 54) (v := ?v612) rfl rfl (by kernel_rfl) (by kernel_rfl) (by kernel_rfl) (fun _ _ _ h => h) (Or.inl ⟨by rfl, ?hy612⟩) hHeld ?rest612
              case hy612 =>
                intro wS hS
                go_simp
                all_goals with_reducible rfl
              (try simp only [Act.put, List.setIfInBounds_toArray, List.set_cons_zero, List.set_cons_succ])
              refine wpAnyH_takeD (i := 1) (d := some 42) (v := ?v613) rfl rfl (by kernel_rfl) (by kernel_rfl) (by kernel_rfl) (fun _ _ _ h => h) (Or.inl ⟨by rfl, ?hy613⟩) hHeld ?rest613
              case hy613 =>
                intro wS hS
                obtain ⟨e1, e2, e3, e4⟩ := hS
                go_simp
                all_goals with_reducible rfl
              (try simp only [Act.put, List.setIfInBounds_toArray, List.set_cons_zero, List.set_cons_succ])
              refine wpAnyH_takeD (i := 4) (d := some 45) (v := ?v614) rfl rfl (by kernel_rfl) (by kernel_rfl) (by kernel_rfl) (fun _ _ _ h => h) (Or.inl ⟨by rfl, ?hy614⟩) hHeld ?rest614
              case hy614 =>
                intro wS hS
                obtain ⟨e1, e2, e3, e4⟩ := hS
                go_simp
                all_goals with_reducible rfl
              (try simp only [Act.put, List.setIfInBounds_toArray, List.set_cons_zero, List.set_cons_succ])
              refine wpAnyH_takeD (i := 10) (d := some 51) (v := ?v615) rfl rfl (by kernel_rfl) (by kernel_rfl) (by kernel_rfl) (fun _ _ _ h => h) (Or.inl ⟨by rfl, ?hy615⟩) hHeld ?rest615
              case hy615 =>
                intro wS hS
                obtain ⟨e1, e2, e3, e4⟩ := hS
                go_simp
                all_goals with_reducible rfl
              (try simp only [Act.put, List.setIfInBounds_toArray, List.set_cons_zero, List.set_cons_succ])
              refine wpAnyH_takeD (i := 5) (d := some 46) (v := ?v616) rfl rfl (by kernel_rfl) (by kernel_rfl) (by kernel_rfl) (fun _ _ _ h => h) (Or.inl ⟨by rfl, ?hy616⟩) hHeld ?rest616
              case hy616 =>
                intro wS hS
                go_simp
                all_goals with_reducible rfl
              (try simp only [Act.put, List.setIfInBounds_toArray, List.set_cons_zero, List.set_cons_succ])
              refine wpAnyH_takeD (i := 11) (d := some 52) (v := ?v617) rfl rfl (by kernel_rfl) (by kernel_rfl) (by kernel_rfl) (fun _ _ _ h => h) (Or.inl ⟨by rfl, ?hy617⟩) hHeld ?rest617
              case hy617 =>
                intro wS hS
                have hzw : IntKind.i64.wrap (q : Int) = (q : Int) := by rw [IntKind.wrap_i64]; omega
                go_simp
                all_goals with_reducible rfl
              (try simp only [Act.put, List.setIfInBounds_toArray, List.set_cons_zero, List.set_cons_succ])
              refine wpAnyH_takeD (i := 6) (d := some 47) (v := ?v618) rfl rfl (by kernel_rfl) (by kernel_rfl) (by kernel_rfl) (fun _ _ _ h => h) (Or.inl ⟨by rfl, ?hy618⟩) hHeld ?rest618
              case hy618 =>
                intro wS hS
                go_simp
                all_goals with_reducible rfl
              (try simp only [Act.put, List.setIfInBounds_toArray, List.set_cons_zero, List.set_cons_succ])
              refine wpAnyH_takeD (i := 14) (d := some 55) (v := ?v619) rfl rfl (by kernel_rfl) (by kernel_rfl) (by kernel_rfl) (fun _ _ _ h => h) (Or.inl ⟨by rfl, ?hy619⟩) hHeld ?rest619
              case hy619 =>
                intro wS hS
                go_simp
                all_goals with_reducible rfl
              (try simp only [Act.put, List.setIfInBounds_toArray, List.set_cons_zero, List.set_cons_succ])
              refine wpAnyH_takeD (i := 7) (d := some 48) (v := ?v620) rfl rfl (by kernel_rfl) (by kernel_rfl) (by kernel_rfl) (fun _ _ _ h => h) (Or.inl ⟨by rfl, ?hy620⟩) hHeld ?rest620
              case hy620 =>
                intro wS hS
                obtain ⟨e1, e2, e3, e4⟩ := hS
                go_simp
                all_goals with_reducible rfl
              (try simp only [Act.put, List.setIfInBounds_toArray, List.set_cons_zero, List.set_cons_succ])
              refine wpAnyH_takeD (i := 15) (d := some 56) (v := ?v621) rfl rfl (by kernel_rfl) (by kernel_rfl) (by kernel_rfl) (fun _ _ _ h => h) (Or.inl ⟨by rfl, ?hy621⟩) hHeld ?rest621
              case hy621 =>
                intro wS hS
                obtain ⟨e1, e2, e3, e4⟩ := hS
                go_simp
                all_goals with_reducible rfl
              (try simp only [Act.put, List.setIfInBounds_toArray, List.set_cons_zero, List.set_cons_succ])
              refine wpAnyH_takeD (i := 16) (d := some 57) (v := ?v622) rfl rfl (by kernel_rfl) (by kernel_rfl) (by kernel_rfl) (fun _ _ _ h => h) (Or.inl ⟨by rfl, ?hy622⟩) hHeld ?rest622
              case hy622 =>
                intro wS hS
                go_simp
                all_goals with_reducible rfl
              (try simp only [Act.put, List.setIfInBounds_toArray, List.set_cons_zero, List.set_cons_succ])
              refine wpAnyH_ready (rs := [17]) (by kernel_rfl) (by simp) (AllReadyH.cons rfl (fun K hK => ?_) AllReadyH.nil)
              rw [if_pos (by rfl)]
              have kg := hPd.G.1 r hrl
              rw [hgr] at kg
              obtain ⟨y, ky⟩ : ∃ y, wd.cell? ⟨gr, q, none⟩ = some y := by rw [cell_of_row _ _ _ _ _ _ kg]; exact ⟨_, Array.getElem?_eq_getElem (by simp [fillR_len]; omega)⟩
              have kf : wd.frozen? ⟨gr, q, none⟩ = false := frozen_of_row _ _ _ _ _ kg
              have hst := partS_step hPd hA HRR.out HQQ.out (by omega) hrl HXX.out
              rw [hgr] at hst
              have cS' : (wd.setCell ⟨gr, q, none⟩ (.int .i64 X)).cell? ⟨gS, 3, none⟩ = some (.slice (some ao) CH cs) := by rw [cell_of_row _ _ _ _ _ _ hst.rS]; rfl
              have ce' : (wd.setCell ⟨gr, q, none⟩ (.int .i64 X)).cell? (ao.add r) = some (.slice (some ⟨gr, 0, none⟩) n n) := (HCE.out _ hst)
              have c0' : (wd.setCell ⟨gr, q, none⟩ (.int .i64 X)).cell? ⟨w.heap.size, 0, none⟩ = some (.int .i64 (CH : Int)) := by rw [cell_of_row _ _ _ _ _ _ hst.r0]; rfl
              have cx' : (wd.setCell ⟨gr, q, none⟩ (.int .i64 X)).cell? (p.add i) = some (.int .i64 X) := HCX.out _ hst
              clear kg
              go_simp
              refine hK.out _ _ ⟨cS', ce', c0', cx'⟩ (fun hHeld => ?_)
              clear hK K
              (try simp only [Act.put, List.setIfInBounds_toArray, List.set_cons_zero, List.set_cons_succ])
              clear hPd
              refine wpAnyH_done (by kernel_rfl) ?_ _
              generalize wd.setCell ⟨gr, q, none⟩ (.int .i64 X) = we at *
              clear cS cS' ce ce' c0 c0' cx cx' ky kf cl
              go_wp2_with fail
              go_roundw
              case rel => exact ⟨i + 1, by omega, by go_num, hst, hid (by rw [hE.out, HLD.out]; rfl)⟩
              case measure => simp [intOf]; omega
          · obtain rfl : i = l.length := by omega
            have dl : decide ((l.length : Int) < (l.length : Int)) = false := decide_eq_false (by omega)
            have hlo : loudI N l = false := by rw [hE.out, List.drop_length]; rfl
            obtain rfl : R = 0 := by rw [HR.out, if_neg (by rw [HZ.out]; simp), if_neg (by rw [hlo]; simp)]
            have hP2 : PartS w A l CH N ra gS As cs gs (fillR l CH n (n * CH)) B wr := by rw [← HN.out]; exact hP
            have hr1 := hP.r1
            have hbb := hP.b
            have d0 : wr.cell? ⟨gS, 0, none⟩ = some (.int .i64 (CH : Int)) := by rw [cell_of_row _ _ _ _ _ _ hP.rS]; rfl
            have d1 : wr.cell? ⟨gS, 1, none⟩ = some (.int .i64 (N : Int)) := by rw [cell_of_row _ _ _ _ _ _ hP.rS]; rfl
            have d2 : wr.cell? ⟨gS, 2, none⟩ = some (.int .i64 ra) := by rw [cell_of_row _ _ _ _ _ _ hP.rS]; rfl
            have d3 : wr.cell? ⟨gS, 3, none⟩ = some (.slice As CH cs) := by rw [cell_of_row _ _ _ _ _ _ hP.rS]; rfl
            obtain ⟨L, hLl, hsl, hin⟩ := partS_end hP2 hnl
            have HLL := hid hLl
            have HIN := hid hin
            clear hLl hin hlo hP hP2 HR c0 c1
            go_wp2_with first | (refine wpList_store_row rfl 26 (.tmp 4) (.tmp 58) rfl rfl (w.heap.size + 1) rfl #[.int .i64 (CH : Int), .int .i64 (N : Int), .int .i64 ra, .slice As CH cs] rfl 26 #[.int .i64 0, .int .i64 0, .int .i64 0, .slice none 0 0] hr1 (by kernel_rfl) rfl (by simp [Value.oneCell']) ?_)
            exact bodyPost_ret (v := .tuple #[.agg #[.int .i64 (CH : Int), .int .i64 (N : Int), .int .i64 ra, .slice As CH cs], .int .i64 0]) (results_row_tmp (fn := Try.f19) (p := 4) (u := 5) (ty := 26) rfl _ _ (w.heap.size + 1) _ _ _ _ rfl (setRow_heap _ _ _ _ _ _ hr1) Try.underlying26 rfl (by kernel_rfl)) rfl (by unfold SndPost; rw [if_pos rfl]; exact ⟨As, cs, L, by rw [HLL.out], hsl, HIN.out.trans (by rw [HNN.out]), below_setRow hbb (by omega) _⟩)
end Go.Proofs.Ytfinefhebffpcaa
