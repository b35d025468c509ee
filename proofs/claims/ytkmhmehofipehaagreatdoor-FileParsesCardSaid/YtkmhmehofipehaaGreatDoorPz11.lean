/- What is read of bytes as tags, plainly: and of what was laid. -/
import Derived.Test.YtkmhmehofipehaaGreatDoorPz9
import Derived.Test.YtkmhmehofipehaaGreatDoorPz10
import Derived.Test.YtkmhmehofipehaaGreatDoorPz3
import Derived.Test.YtkmhmehofipehaaGreatDoorPz7
import Derived.Test.YtkmhmehofipehaaGreatDoorPz1
import Derived.Test.YtkmhmehofipehaaGreatDoorPz2
import Derived.Test.YtkmhmehofipehaaGreatDoorPz5
import Derived.Laws.StructEq
import Derived.WalkSpells
import Derived.WalkLawsBesides
namespace Go.Proofs.YtkmhmehofipehaaGreatDoor
set_option linter.unusedVariables false
open Go.RowKit
def startsG (l : List UInt8) : Bool := (l[0]?.getD 84 == 84) && (l[1]?.getD 71 == 71)
/-- a key and a value, taken one behind the other -/
def stepG (b : List UInt8) (s : Int × Nat) : (Int × Nat) × TagV := ((textR (textR s b 1).1 b 2).1, ⟨⟨(textR s b 1).2.toArray⟩, ⟨(textR (textR s b 1).1 b 2).2.toArray⟩⟩)
def loopG (b : List UInt8) : Nat → Int × Nat → List TagV → (Int × Nat) × List TagV
  | 0, s, acc => (s, acc)
  | n + 1, s, acc => if (stepG b s).1.1 ≠ 0 then ((stepG b s).1, acc) else loopG b n (stepG b s).1 (acc ++ [(stepG b s).2])
def endG (b : List UInt8) (p : Nat) (q : Int × Nat) (x : List UInt8) (l : List TagV) : Int × Nat × List TagV :=
  if q.1 ≠ 0 then (q.1, 0, []) else if valLE x ≠ (sumI (b.take p)).toNat then (33, 0, []) else if (checkT l).2 ≠ 0 then ((checkT l).2, 0, []) else (0, q.2, l)
def finG (b : List UInt8) (r : (Int × Nat) × List TagV) : Int × Nat × List TagV := endG b r.1.2 (takeU r.1 b 4).1 (takeU r.1 b 4).2 r.2
def countG (b : List UInt8) : Nat := valLE ((b.drop 2).take 1)
def getG (b : List UInt8) : Int × Nat × List TagV :=
  if startsG b = false then (31, 0, []) else if b.length < 3 then (10, 0, []) else finG b (loopG b (countG b) (0, 3) [])
end Go.Proofs.YtkmhmehofipehaaGreatDoor
/- Tags in a row of the call's own: its cells. -/
namespace Go.Proofs.YtkmhmehofipehaaGreatDoor
set_option linter.unusedVariables false
open Go.RowKit
theorem elT : Elem Tryz.prog 28 100 2 32 := Elem.mk' Tryz.underlying28 (z := .agg #[.string ByteArray.empty, .string ByteArray.empty]) (by kernel_rfl) rfl (by omega)
/-- the cells of tags -/
def flat : List TagV → List Value
  | [] => []
  | t :: l => .string t.k :: .string t.v :: flat l
theorem flat_app : ∀ l m : List TagV, flat (l ++ m) = flat l ++ flat m
  | [], _ => rfl
  | t :: l, m => by simp only [flat, List.cons_append, flat_app l m]
theorem flat_one : ∀ (l : List TagV), ∀ u ∈ flat l, u.oneCell' = true
  | [], u, h => by simp [flat] at h
  | t :: l, u, h => by
    simp only [flat, List.mem_cons] at h
    rcases h with rfl | rfl | h
    · rfl
    · rfl
    · exact flat_one l u h
theorem flat_at : ∀ (l : List TagV) (i : Nat) (h : i < l.length), (flat l)[i * 2]? = some (.string l[i].k) ∧ (flat l)[i * 2 + 1]? = some (.string l[i].v)
  | [], i, h => by simp at h
  | t :: l, 0, _ => ⟨rfl, rfl⟩
  | t :: l, i + 1, h => by
    rw [show (i + 1) * 2 = (i * 2) + 1 + 1 by omega]
    exact flat_at l i (by simpa using h)
theorem SeesT.of_flat {w : World} {A : Option Addr} {l : List TagV} (h : Sees w A (flat l)) : SeesT w A l := by
  intro i hi
  obtain ⟨e0, e1⟩ := flat_at l i hi
  obtain ⟨a, ha, h0⟩ := h _ _ e0
  obtain ⟨b, hb, h1⟩ := h _ _ e1
  rw [ha] at hb
  injection hb with hb
  subst hb
  exact ⟨a, ha, h0, by rw [addr_add]; exact h1⟩
/-- a slice of the call's own, from a block on -/
def NewT (B : Nat) (w' : World) (l : List TagV) (A : Option Addr) (c : Nat) : Prop :=
  w'.ownsRow B 100 2 (.slice A l.length c) l.length (flat l)
theorem NewT.sees {B : Nat} {w' : World} {l : List TagV} {A : Option Addr} {c : Nat} (h : NewT B w' l A c) : SeesT w' A l := SeesT.of_flat (own_sees h)
theorem NewT.below {B : Nat} {w w' : World} {l : List TagV} {A : Option Addr} {c : Nat} (h : NewT B w l A c) (hb : Below w.heap.size w w') : NewT B w' l A c :=
  World.ownsRow.kept h (row := none) ⟨hb.os, hb.tape, hb.output, hb.size, fun k hk _ => hb.block k hk⟩ (by cases (Value.slice A l.length c).ownBlock <;> simp)
theorem NewT.cap {B : Nat} {w : World} {l : List TagV} {A : Option Addr} {c : Nat} (h : NewT B w l A c) : l.length ≤ c := by
  rcases h.2 with ⟨h', h0⟩ | ⟨g', cap', cur, h', hb, hg, hnc, _⟩
  · rw [h0]; exact Nat.zero_le _
  · injection h' with _ _ h3
    omega
theorem nil_sees (w : World) : SeesT w none [] := fun i hi => by simp at hi
end Go.Proofs.YtkmhmehofipehaaGreatDoor
/- Where a taker stands, and its error. -/
namespace Go.Proofs.YtkmhmehofipehaaGreatDoor
set_option linter.unusedVariables false
open Go.RowKit
set_option maxHeartbeats 400000 in
theorem tat_tk (g : Nat) (e : Int) (p : Nat) (l : List UInt8) (w : World) (h : Tk w g e p l) :
    Calls Tryz.prog 61 #[.pointer (some ⟨g, 0, none⟩)] w fun x w' => x = .returned (.int .i64 (p : Int)) ∧ w = w' := by
  obtain ⟨A, c, hc0, hc1, hc2, _⟩ := h.cells
  go_enter Tryz.func61, Tryz.ntmps61
  go_wp2
  go_ret
  exact ⟨rfl, rfl⟩
set_option maxHeartbeats 400000 in
theorem terr_tk (g : Nat) (e : Int) (p : Nat) (l : List UInt8) (w : World) (h : Tk w g e p l) :
    Calls Tryz.prog 60 #[.pointer (some ⟨g, 0, none⟩)] w fun x w' => x = .returned (.int .i64 e) ∧ w = w' := by
  obtain ⟨A, c, hc0, hc1, hc2, _⟩ := h.cells
  go_enter Tryz.func60, Tryz.ntmps60
  go_wp2
  go_ret
  exact ⟨rfl, rfl⟩
end Go.Proofs.YtkmhmehofipehaaGreatDoor
/- Tags read: the program's Get. -/
namespace Go.Proofs.YtkmhmehofipehaaGreatDoor
set_option linter.unusedVariables false
open Go.RowKit
theorem tbyte_is (x : UInt8) (n : Nat) (hn : n < 256) : ((x.toNat : Int) == (n : Int)) = (x == UInt8.ofNat n) := by
  have h : ((x.toNat : Int) = (n : Int)) ↔ x = UInt8.ofNat n := by
    constructor
    · intro h
      have h2 : x.toNat = n := by omega
      rw [← h2]; simp
    · intro h
      rw [h]; simp; omega
  rw [Bool.eq_iff_iff]
  simp [h]
set_option maxHeartbeats 1000000 in
theorem gstarts_any (A : Option Addr) (c : Nat) (l : List UInt8) (w : World) (hl : SeesB w A l) :
    Calls Tryz.prog 57 #[.slice A l.length c] w fun e w' => e = .returned (.bool (startsG l)) ∧ w = w' := by
  obtain ⟨S, hS⟩ : ∃ S, S = startsG l := ⟨_, rfl⟩
  rw [← hS]
  have HS := hid hS
  clear hS
  match l, hl, HS with
  | [], hl, HS =>
    obtain rfl : S = true := HS.out
    go_enter Tryz.func57, Tryz.ntmps57
    go_wp2_with fail
    go_ret
    exact ⟨rfl, rfl⟩
  | [x], hl, HS =>
    obtain ⟨a, rfl, ca⟩ := hl.at (show 0 < ([x] : List UInt8).length by simp)
    have ca0 : w.cell? a = some (.int .u8 (x.toNat : Int)) := ca
    have hq : S = ((x.toNat : Int) == 84) := by rw [HS.out, show ((x.toNat : Int) == 84) = (x == 84) from tbyte_is x 84 (by omega)]; simp [startsG]
    clear HS
    cases hd : ((x.toNat : Int) == 84) with
    | true =>
      obtain rfl : S = true := hq.trans hd
      clear hq
      go_enter Tryz.func57, Tryz.ntmps57
      go_wp2_with fail
      go_ret
      exact ⟨rfl, rfl⟩
    | false =>
      obtain rfl : S = false := hq.trans hd
      clear hq
      go_enter Tryz.func57, Tryz.ntmps57
      go_wp2_with fail
      go_ret
      exact ⟨rfl, rfl⟩
  | x :: y :: t, hl, HS =>
    obtain ⟨a, rfl, ca⟩ := hl.at (show 0 < (x :: y :: t).length by simp)
    have ca0 : w.cell? a = some (.int .u8 (x.toNat : Int)) := ca
    have ca1 : w.cell? { block := a.block, off := a.off + 1 } = some (.int .u8 (y.toNat : Int)) := by
      obtain ⟨b, hb, cb⟩ := hl.at (show 1 < (x :: y :: t).length by simp)
      injection hb with hb
      subst hb
      exact cb
    have hq : S = (((x.toNat : Int) == 84) && ((y.toNat : Int) == 71)) := by rw [HS.out, show ((x.toNat : Int) == 84) = (x == 84) from tbyte_is x 84 (by omega), show ((y.toNat : Int) == 71) = (y == 71) from tbyte_is y 71 (by omega)]; simp [startsG]
    clear HS
    obtain ⟨m, hm⟩ : ∃ m, m = (x :: y :: t).length := ⟨_, rfl⟩
    have hm2 : 2 ≤ m := by rw [hm]; simp
    rw [← hm]
    clear hm
    have d1 : decide ((m : Int) < 1) = false := decide_eq_false (by omega)
    have d2 : decide ((m : Int) < 2) = false := decide_eq_false (by omega)
    have b0 : (0 : Int) < m := by omega
    have b1 : (1 : Int) < m := by omega
    cases hd : ((x.toNat : Int) == 84) with
    | true =>
      cases he : ((y.toNat : Int) == 71) with
      | true =>
        obtain rfl : S = true := by rw [hq, hd, he]; rfl
        clear hq
        go_enter Tryz.func57, Tryz.ntmps57
        go_wp2_with fail
        go_ret
        exact ⟨rfl, rfl⟩
      | false =>
        obtain rfl : S = false := by rw [hq, hd, he]; rfl
        clear hq
        go_enter Tryz.func57, Tryz.ntmps57
        go_wp2_with fail
        go_ret
        exact ⟨rfl, rfl⟩
    | false =>
      obtain rfl : S = false := by rw [hq, hd]; rfl
      clear hq
      go_enter Tryz.func57, Tryz.ntmps57
      go_wp2_with fail
      go_ret
      exact ⟨rfl, rfl⟩
theorem gU_end (p n : Nat) (T : List UInt8) (h : T.length < p + n) (hp : p ≤ T.length) (hn : 1 ≤ n ∧ n ≤ 8) : takeU (0, p) T (n : Int) = ((10, p), []) := by
  unfold takeU tnext
  rw [if_neg (by simp), if_neg (by omega), Int.toNat_natCast, if_pos (by omega)]
theorem gU_err (e : Int) (p : Nat) (n : Int) (T : List UInt8) (h : e ≠ 0) : takeU (e, p) T n = ((e, p), []) := by
  unfold takeU
  rw [if_pos h]
theorem gU_at (p n : Nat) (T : List UInt8) (h : p + n ≤ T.length) (hn : 1 ≤ n ∧ n ≤ 8) : takeU (0, p) T (n : Int) = ((0, p + n), (T.drop p).take n) := by
  unfold takeU tnext
  rw [if_neg (by simp), if_neg (by omega), Int.toNat_natCast, if_neg (by omega)]
theorem gRaw_ok (T : List UInt8) (h : 2 ≤ T.length) : takeRaw (0, 0) T 2 = ((0, 2), T.take 2) := by
  unfold takeRaw tnext
  rw [if_neg (by simp), if_neg (by omega), if_neg (by simp; omega)]
  rfl
theorem gRaw_end (T : List UInt8) (h : T.length < 2) : takeRaw (0, 0) T 2 = ((10, 0), []) := by
  unfold takeRaw tnext
  rw [if_neg (by simp), if_neg (by omega), if_pos (by simp; omega)]
def GetGPost (w : World) (r : Int × Nat × List TagV) (e : Ending) (w' : World) : Prop :=
  ∃ A c, e = .returned (.tuple #[.slice A r.2.2.length c, .int .i64 (r.2.1 : Int), .int .i64 r.1]) ∧ SeesT w' A r.2.2 ∧ r.2.2.length ≤ c ∧ Below w.heap.size w w'
theorem get_bad {w w' : World} (er : Int) (hb : Below w.heap.size w w') : GetGPost w (er, 0, []) (.returned (.tuple #[.slice none 0 0, .int .i64 0, .int .i64 er])) w' := ⟨none, 0, rfl, nil_sees _, Nat.le_refl _, hb⟩
set_option maxHeartbeats 2000000 in
theorem tagget_kind (t : Nat) (A : Option Addr) (c : Nat) (l : List UInt8) (w : World) (hl : SeesB w A l) (hst : startsG l = false) :
    Calls Tryz.prog 29 #[.pointer (some ⟨t, 0, none⟩), .slice A l.length c] w (GetGPost w (31, 0, [])) := by
  have hss := hid (gstarts_any A c l w hl)
  rw [hst] at hss
  go_enter Tryz.func29, Tryz.ntmps29
  go_wp2_with fail
  refine hss.out.mono ?_
  rintro e w1 ⟨rfl, rfl⟩
  go_wp2_with fail
  exact bodyPost_ret (results_tmp3 rfl _ _ _) rfl (get_bad 31 (Below.refl _ _))
set_option maxRecDepth 20000 in
set_option maxHeartbeats 2000000 in
theorem tagget_few (t : Nat) (A : Option Addr) (c : Nat) (l : List UInt8) (w : World) (hl : SeesB w A l) (hst : startsG l = true) (hlen : l.length ≤ 140737488355328) (e0 : Int) (p0 p1 : Nat) (xr : List UInt8)
    (hr : takeRaw (0, 0) l 2 = ((e0, p0), xr)) (hu : takeU (e0, p0) l 1 = ((10, p1), [])) :
    Calls Tryz.prog 29 #[.pointer (some ⟨t, 0, none⟩), .slice A l.length c] w (GetGPost w (10, 0, [])) := by
  have hss := hid (gstarts_any A c l w hl)
  rw [hst] at hss
  have htk := hid (take_any A c l w hl hlen)
  have HR := hid (fun g W (h : Tk W g 0 0 l) => by
    have h1 := traw_any g 0 0 2 l W h hlen (by omega)
    rw [hr] at h1
    exact h1)
  have HU := hid (fun g W (h : Tk W g e0 p0 l) => by
    have h1 := takerU_any g e0 p0 1 l W h hlen
    rw [hu] at h1
    exact h1)
  have HX := hid (fun g W (h : Tk W g 10 p1 l) => by
    have h1 := takerU_any g 10 p1 4 l W h hlen
    rw [gU_err 10 p1 4 l (by decide)] at h1
    exact h1)
  clear hr hu
  go_enter Tryz.func29, Tryz.ntmps29
  go_wp2_with fail
  refine hss.out.mono ?_
  rintro e w1 ⟨rfl, rfl⟩
  go_wp2_with fail
  refine htk.out.mono ?_
  rintro e w1 ⟨g, rfl, hg, hT1, hb1⟩
  go_wp2_with fail
  refine (HR.out g w1 hT1).mono ?_
  rintro e w2 ⟨A2, c2, rfl, _, _, _, _, hT2, hB2⟩
  have hbw2 := But.below hb1 hB2 (fun b h => by have h2 : b = g := h; omega) hb1.size
  clear hT1 hB2 hb1
  go_wp2_with fail
  refine (HU.out g w2 hT2).mono ?_
  rintro e w3 ⟨rfl, hT3, hB3⟩
  have hbw3 := But.below hbw2 hB3 (fun b h => by have h2 : b = g := h; omega) hbw2.size
  clear hT2 hB3 hbw2
  rw [show valLE [] = 0 from rfl]
  go_wp2_with fail
  go_loop [27] (fun i => i = .int .u64 0) (fun _ => 0)
  case atStart => rfl
  case round =>
    obtain rfl := hrel
    go_wp2_with fail
    refine (tat_tk g 10 p1 l w3 hT3).mono ?_
    rintro e wq ⟨rfl, rfl⟩
    go_wp2_with fail
    refine (HX.out g w3 hT3).mono ?_
    rintro e w4 ⟨rfl, hT4, hB4⟩
    have hbw4 := But.below hbw3 hB4 (fun b h => by have h2 : b = g := h; omega) hbw3.size
    clear hT3 hB4 hbw3
    go_wp2_with fail
    refine (terr_tk g 10 p1 l w4 hT4).mono ?_
    rintro e wq ⟨rfl, rfl⟩
    go_wp2_with fail
    refine (terr_tk g 10 p1 l w4 hT4).mono ?_
    rintro e wq ⟨rfl, rfl⟩
    go_wp2_with fail
    refine bodyPost_ret (results_tmp3 rfl _ _ _) rfl ?_
    exact get_bad 10 hbw4
theorem textR_len (s : Int × Nat) (l : List UInt8) (n : Int) : (textR s l n).2.length ≤ l.length := by
  unfold textR
  split
  · simp
  · split
    · simp
    · split
      · simp
      · simp only [List.length_take, List.length_drop]; omega
theorem brief_snoc {L : List TagV} {x y : List UInt8} (h : Brief L) (hx : x.length ≤ 140737488355328) (hy : y.length ≤ 140737488355328) : Brief (L ++ [⟨⟨x.toArray⟩, ⟨y.toArray⟩⟩]) := by
  intro z hz
  rcases List.mem_append.1 hz with hz | hz
  · exact h z hz
  · rw [List.mem_singleton.1 hz]
    exact ⟨hx, hy⟩
theorem own_far {B : Nat} {w w' : World} {g : Nat} {l : List TagV} {A : Option Addr} {c : Nat} (h : NewT B w l A c) (hb : But (Only g) w w') (hg : g < B) : NewT B w' l A c :=
  own_but h hb (fun k hk hh => by
    have h1 := own_base h hk
    have h2 : k = g := hh
    omega)
set_option maxRecDepth 20000 in
set_option maxHeartbeats 4000000 in
theorem tagget_long (t : Nat) (A : Option Addr) (c : Nat) (l : List UInt8) (w : World) (ht : Tab w t) (hl : SeesB w A l) (hc : l.length ≤ c) (hcm : c ≤ maxLen) (hst : startsG l = true) (hlen : l.length ≤ 140737488355328) (hTabs : Tabs w) (h3 : 3 ≤ l.length) :
    Calls Tryz.prog 29 #[.pointer (some ⟨t, 0, none⟩), .slice A l.length c] w (GetGPost w (getG l)) := by
  have htg := ht.lt
  have hss := hid (gstarts_any A c l w hl)
  rw [hst] at hss
  have htk := hid (take_any A c l w hl hlen)
  have HR := hid (fun g W (h : Tk W g 0 0 l) => by
    have h1 := traw_any g 0 0 2 l W h hlen (by omega)
    rw [gRaw_ok l (by omega)] at h1
    exact h1)
  obtain ⟨N, hN⟩ : ∃ N, N = countG l := ⟨_, rfl⟩
  have HN := hid hN
  have HU := hid (fun g W (h : Tk W g 0 2 l) => by
    have h1 := takerU_any g 0 2 1 l W h hlen
    rw [show takeU (0, 2) l 1 = ((0, 3), (l.drop 2).take 1) from gU_at 2 1 l (by omega) (by omega)] at h1
    unfold UPost at h1
    simp only at h1
    rw [show valLE ((l.drop 2).take 1) = N from hN.symm] at h1
    exact h1)
  have hNl : N < 256 := by
    rw [hN]
    have h1 := valLE_lt ((l.drop 2).take 1)
    have h2 : ((l.drop 2).take 1).length = 1 := by simp; omega
    rw [h2] at h1
    exact h1
  clear hN
  obtain ⟨R, hR⟩ : ∃ R, R = loopG l N (0, 3) [] := ⟨_, rfl⟩
  have HG := hid (show getG l = finG l R by unfold getG; rw [if_neg (by rw [hst]; simp), if_neg (by omega), hR, HN.out])
  have HRL := hid hR.symm
  clear hR
  go_enter Tryz.func29, Tryz.ntmps29
  go_wp2_with fail
  refine hss.out.mono ?_
  rintro e w1 ⟨rfl, rfl⟩
  go_wp2_with fail
  refine htk.out.mono ?_
  rintro e w1 ⟨g, rfl, hg, hT1, hb1⟩
  go_wp2_with fail
  refine (HR.out g w1 hT1).mono ?_
  rintro e w2 ⟨A2, c2, rfl, _, _, _, _, hT2, hB2⟩
  have hbw2 := But.below hb1 hB2 (fun b h => by have h2 : b = g := h; omega) hb1.size
  clear hT1 hB2 hb1
  go_wp2_with fail
  refine (HU.out g w2 hT2).mono ?_
  rintro e w3 ⟨rfl, hT3, hB3⟩
  have hbw3 := But.below hbw2 hB3 (fun b h => by have h2 : b = g := h; omega) hbw2.size
  have hT := hT3.tkB (by omega)
  have hgB : g < w3.heap.size := by obtain ⟨_, _, hg0, _⟩ := hT3; exact (Array.getElem?_eq_some_iff.1 hg0).1
  have hwB : w.heap.size ≤ w3.heap.size := hbw3.size
  clear hT2 hB3 hbw2 hT3 HR HU hss htk
  obtain ⟨B, hB⟩ : ∃ B, B = w3.heap.size := ⟨_, rfl⟩
  rw [← hB] at hT hgB hwB
  have hBw : B ≤ w3.heap.size := by omega
  clear hB
  go_wp2_with fail
  go_loopw [8, 9, 27] (fun x y i wr => ∃ (n s2 : Nat) (L : List TagV) (A' : Option Addr) (c' : Nat), n ≤ N ∧ i = .int .u64 n ∧ x = .slice A' L.length c' ∧ NewT B wr L A' c' ∧ TkB wr g 0 s2 l B ∧ Below w.heap.size w wr ∧ B ≤ wr.heap.size ∧ L.length ≤ n ∧ Brief L ∧ Hid (loopG l (N - n) (0, s2) L = R)) (fun _ _ i _ => N - (intOf i).toNat)
  case atStart => exact ⟨0, 3, [], none, 0, by omega, rfl, rfl, own_nil _ _ _ _, hT, hbw3, hBw, by simp, fun x hx => by simp at hx, HRL⟩
  case round =>
    clear hT hbw3 hBw HRL
    obtain ⟨n, s2, L, A', c', hn, rfl, rfl, hown, hT, hbw, hBw, hLn, hLb, hE⟩ := hrel
    by_cases hlt : n < N
    · have hd : decide ((n : Int) < (N : Int)) = true := decide_eq_true (by omega)
      have HX1 := ttextB_any g 0 s2 1 l wr B hT hlen
      obtain ⟨m, hm⟩ : ∃ m, N - n = m + 1 := ⟨N - n - 1, by omega⟩
      have hE2 := hE.out
      rw [hm, loopG] at hE2
      unfold stepG at hE2
      obtain ⟨⟨⟨e1, p1⟩, x1⟩, hr1⟩ : ∃ r, textR (0, s2) l 1 = r := ⟨_, rfl⟩
      rw [hr1] at HX1 hE2
      simp only at hE2
      obtain ⟨⟨⟨e2, p2⟩, x2⟩, hr2⟩ : ∃ r, textR (e1, p1) l 2 = r := ⟨_, rfl⟩
      rw [hr2] at hE2
      simp only at hE2
      have HX2 := hid (fun W (h : TkB W g e1 p1 l B) => by
        have h1 := ttextB_any g e1 p1 2 l W B h hlen
        rw [hr2] at h1
        exact h1)
      have HX1' := hid HX1
      have hx1l : x1.length ≤ l.length := by have := textR_len (0, s2) l 1; rw [hr1] at this; exact this
      have hx2l : x2.length ≤ l.length := by have := textR_len (e1, p1) l 2; rw [hr2] at this; exact this
      have hLb2 := brief_snoc hLb (x := x1) (y := x2) (by omega) (by omega)
      clear hr1 hr2 hx1l hx2l
      have HE2 := hid hE2
      have HM := hid (show N - (n + 1) = m by omega)
      clear HX1 hE2 hm hE
      go_wp2_with fail
      refine HX1'.out.mono ?_
      rintro e w4 ⟨rfl, hT4, hB4⟩
      have hbw4 := But.below hbw hB4 (fun b h => by have h2 : b = g := h; omega) hbw.size
      have hown4 := own_far hown hB4 hgB
      have hBw4 := Nat.le_trans hBw hB4.size
      clear hT hB4 hbw hown hBw HX1'
      go_wp2_with fail
      refine (HX2.out w4 hT4).mono ?_
      rintro e w5 ⟨rfl, hT5, hB5⟩
      have hbw5 := But.below hbw4 hB5 (fun b h => by have h2 : b = g := h; omega) hbw4.size
      have hown5 := own_far hown4 hB5 hgB
      have hBw5 := Nat.le_trans hBw4 hB5.size
      clear hT4 hB5 hbw4 hown4 hBw4 HX2
      go_wp2_with fail
      have hb6 : Below w5.heap.size w5 (w5.alloc (.cells #[.string ⟨x1.toArray⟩, .string ⟨x2.toArray⟩] 100)) := (Below.refl _ w5).alloc (Nat.le_refl _) _
      have hrow := heap_alloc_new w5 (.cells #[.string ⟨x1.toArray⟩, .string ⟨x2.toArray⟩] 100)
      have c0 : (w5.alloc (.cells #[.string ⟨x1.toArray⟩, .string ⟨x2.toArray⟩] 100)).cell? ⟨w5.heap.size, 0, none⟩ = some (.string ⟨x1.toArray⟩) := by rw [cell_of_row _ _ _ _ _ _ hrow]; rfl
      have c1 : (w5.alloc (.cells #[.string ⟨x1.toArray⟩, .string ⟨x2.toArray⟩] 100)).cell? ⟨w5.heap.size, 1, none⟩ = some (.string ⟨x2.toArray⟩) := by rw [cell_of_row _ _ _ _ _ _ hrow]; rfl
      have hT6 := hT5.below hb6
      have hown6 := NewT.below hown5 hb6
      have hbw6 := hbw5.trans (hb6.mono hbw5.size)
      have hBw6 := Nat.le_trans hBw5 hb6.size
      clear hT5 hown5 hbw5 hb6 hrow
      generalize w5.alloc (.cells #[.string ⟨x1.toArray⟩, .string ⟨x2.toArray⟩] 100) = w6 at *
      generalize w5.heap.size = gx at *
      refine (terr_tk g e2 p2 l w6 hT6.tk).mono ?_
      rintro e wq ⟨rfl, rfl⟩
      by_cases he : e2 = 0
      · subst he
        have HE3 := hid (show loopG l (N - (n + 1)) (0, p2) (L ++ [⟨⟨x1.toArray⟩, ⟨x2.toArray⟩⟩]) = R by rw [HM.out]; have := HE2.out; rwa [if_neg (by simp)] at this)
        clear HE2 HM
        have HYS := hid (show flat L ++ flat [⟨⟨x1.toArray⟩, ⟨x2.toArray⟩⟩] = flat (L ++ [⟨⟨x1.toArray⟩, ⟨x2.toArray⟩⟩]) from (flat_app _ _).symm)
        obtain ⟨L2, hL2⟩ : ∃ L2 : List TagV, L2 = L ++ [⟨⟨x1.toArray⟩, ⟨x2.toArray⟩⟩] := ⟨_, rfl⟩
        have HLL := hid (show L.length + 1 = L2.length by rw [hL2, List.length_append]; rfl)
        rw [← hL2] at HE3 HYS hLb2
        clear hL2
        have hba := (Below.refl w6.heap.size w6).alloc (Nat.le_refl _) (.cells #[.string ⟨x1.toArray⟩, .string ⟨x2.toArray⟩] 100)
        have hown7 := NewT.below hown6 hba
        have hT7 := hT6.below hba
        have hbw7 := hbw6.trans (hba.mono hbw6.size)
        have hBw7 := Nat.le_trans hBw6 hba.size
        clear hT6 hown6 hbw6
        go_wp2_with (at_builtin; refine wpList_app rfl (.tmp 37) (.tmp 39) _ rfl elT rfl hown7 (some ⟨w6.heap.size, 0, none⟩) 1 1 rfl (flat [⟨⟨x1.toArray⟩, ⟨x2.toArray⟩⟩]) (Sees.of_alloc _ _ _ rfl) (by simp [flat]) (flat_one _) L2.length HLL.out _ HYS.out (by have := HLL.out; unfold maxLen; omega) (by have := HLL.out; omega) hBw7 ?_; intro A5 c5 w8 hown8 hgr hat hbel)
        have hT8 := hT7.far hgB hbel
        exact ⟨⟨n + 1, p2, L2, A5, c5, by omega, by go_num, rfl, hown8, hT8, hbw7.trans (hbel.mono hwB), Nat.le_trans hBw7 hbel.size, by have := HLL.out; omega, hLb2, HE3⟩, by simp [intOf]; omega⟩
      · have de : (e2 != 0) = true := by simpa using he
        have de2 : decide (e2 = 0) = false := decide_eq_false he
        have HF := hid (show getG l = (e2, 0, []) by
          have h1 := HE2.out
          rw [if_pos he] at h1
          rw [HG.out, ← h1]
          unfold finG
          simp only
          rw [gU_err e2 p2 4 l he]
          unfold endG
          rw [if_pos he])
        have HX := hid (fun W (h : TkB W g e2 p2 l B) => by
          have h1 := takerUB_any g e2 p2 4 l W B h hlen
          rw [gU_err e2 p2 4 l he] at h1
          exact h1)
        clear HE2 HM HG he c0 c1 hown6
        go_wp2_with fail
        refine (tat_tk g e2 p2 l w6 hT6.tk).mono ?_
        rintro e wq ⟨rfl, rfl⟩
        go_wp2_with fail
        refine (HX.out w6 hT6).mono ?_
        rintro e w7 ⟨rfl, hT7, hB7⟩
        have hbw7 := But.below hbw6 hB7 (fun b h => by have h2 : b = g := h; omega) hbw6.size
        clear hT6 hB7 hbw6
        go_wp2_with fail
        refine (terr_tk g e2 p2 l w7 hT7.tk).mono ?_
        rintro e wq ⟨rfl, rfl⟩
        go_wp2_with fail
        refine (terr_tk g e2 p2 l w7 hT7.tk).mono ?_
        rintro e wq ⟨rfl, rfl⟩
        go_wp2_with fail
        refine bodyPost_ret (results_tmp3 rfl _ _ _) rfl ?_
        rw [HF.out]
        exact get_bad e2 hbw7
    · obtain rfl : n = N := by omega
      have hd : decide ((n : Int) < (n : Int)) = false := decide_eq_false (by omega)
      have hfin := HG.out
      have hRe := hE.out
      rw [Nat.sub_self, loopG] at hRe
      rw [← hRe] at hfin
      unfold finG at hfin
      simp only at hfin
      have hU := takerUB_any g 0 s2 4 l wr B hT hlen
      have h8 := takeU_len (0, s2) l 4
      have hps : s2 ≤ l.length := by obtain ⟨_, _, _, _, _, _, h, _⟩ := hT; exact h
      obtain ⟨⟨⟨e1, p1⟩, x1⟩, hr1⟩ : ∃ r, takeU (0, s2) l 4 = r := ⟨_, rfl⟩
      rw [hr1] at hU hfin h8
      simp only at hfin h8
      have HU := hid hU
      have HFN := hid hfin
      clear hU hfin hRe hr1 hE HG
      by_cases he : e1 = 0
      · subst he
        have HF := hid (show getG l = if valLE x1 ≠ (sumI (l.take s2)).toNat then (33, 0, []) else if (checkT L).2 ≠ 0 then ((checkT L).2, 0, []) else (0, p1, L) by rw [HFN.out]; unfold endG; rw [if_neg (by simp)])
        have hsr := sumI_range (l.take s2)
        obtain ⟨S, hS⟩ := Int.eq_ofNat_of_zero_le hsr.1
        have hst2 : (l.take s2).length = s2 := by rw [List.length_take]; omega
        have hsum := fun W (ht : Tab W t) (hl : SeesB W A (l.take s2)) => sum_any t A c (l.take s2) W ht hl (by omega)
        rw [hst2, hS] at hsum
        rw [hS, Int.toNat_natCast] at HF
        rw [hS] at hsr
        have HSUM := hid hsum
        have hx8 : valLE x1 < 18446744073709551616 := by
          have := valLE_lt x1
          have := Nat.pow_le_pow_right (show 0 < 256 by omega) h8
          omega
        obtain ⟨X, hX⟩ : ∃ X, X = valLE x1 := ⟨_, rfl⟩
        unfold UPostB at HU
        simp only at HU
        rw [← hX] at HU HF hx8
        clear HFN hX hS hsum hst2
        go_wp2_with fail
        refine (tat_tk g 0 s2 l wr hT.tk).mono ?_
        rintro e wq ⟨rfl, rfl⟩
        go_wp2_with fail
        refine HU.out.mono ?_
        rintro e w7 ⟨rfl, hT7, hB7⟩
        have hbw7 := But.below hbw hB7 (fun b h => by have h2 : b = g := h; omega) hbw.size
        go_wp2_with fail
        refine (terr_tk g 0 p1 l w7 hT7.tk).mono ?_
        rintro e wq ⟨rfl, rfl⟩
        have hlq := hl.below hbw7
        have hsq : SeesB w7 A (l.take s2) := by unfold SeesB; rw [List.map_take]; exact Sees.take hlq s2
        go_wp2_with fail
        refine (HSUM.out w7 (ht.keep hbw7 htg) hsq).mono ?_
        rintro e wq ⟨rfl, rfl⟩
        have hown7 := own_far hown hB7 hgB
        clear hown hB7 hbw hT hsq hlq HSUM HU
        by_cases hXS : X = S
        · have hC := check_any A' c' L w7 (NewT.sees hown7) (NewT.cap hown7) (by unfold maxLen; omega) hLb (hTabs.below hbw7)
          obtain ⟨⟨ci, ce⟩, hck⟩ : ∃ r, checkT L = r := ⟨_, rfl⟩
          rw [hck] at hC HF
          rw [if_neg (by rw [hXS]; simp)] at HF
          simp only at hC HF
          have d : ((X : Int) != (S : Int)) = false := by simp; omega
          have HC := hid hC
          clear hck hC hXS
          go_wp2_with fail
          refine HC.out.mono ?_
          rintro e w8 ⟨rfl, hb8⟩
          have hbw8 := hbw7.trans (hb8.mono hbw7.size)
          have hT8 := hT7.below hb8
          have hown8 := NewT.below hown7 hb8
          clear hT7 hown7 hb8 hbw7
          by_cases hce : ce = 0
          · subst hce
            have HF2 := hid (show getG l = (0, p1, L) by rw [HF.out, if_neg (by simp)])
            clear HF
            go_wp2_with fail
            refine (tat_tk g 0 p1 l w8 hT8.tk).mono ?_
            rintro e wq ⟨rfl, rfl⟩
            go_wp2_with fail
            refine bodyPost_ret (results_tmp3 rfl _ _ _) rfl ?_
            rw [HF2.out]
            exact ⟨A', c', rfl, NewT.sees hown8, NewT.cap hown8, hbw8⟩
          · have de : (ce != 0) = true := by simpa using hce
            have de2 : decide (ce = 0) = false := decide_eq_false hce
            have HF2 := hid (show getG l = (ce, 0, []) by rw [HF.out, if_pos hce])
            clear HF hce
            go_wp2_with fail
            refine bodyPost_ret (results_tmp3 rfl _ _ _) rfl ?_
            rw [HF2.out]
            exact get_bad ce hbw8
        · have d : ((X : Int) != (S : Int)) = true := by simp; omega
          have HF2 := hid (show getG l = (33, 0, []) by rw [HF.out, if_pos hXS])
          clear HF hXS
          go_wp2_with fail
          refine bodyPost_ret (results_tmp3 rfl _ _ _) rfl ?_
          rw [HF2.out]
          exact get_bad 33 hbw7
      · have HF := hid (show getG l = (e1, 0, []) by rw [HFN.out]; unfold endG; rw [if_pos he])
        have de : (e1 != 0) = true := by simpa using he
        have de2 : decide (e1 = 0) = false := decide_eq_false he
        clear HFN he hown
        go_wp2_with fail
        refine (tat_tk g 0 s2 l wr hT.tk).mono ?_
        rintro e wq ⟨rfl, rfl⟩
        go_wp2_with fail
        refine HU.out.mono ?_
        rintro e w7 ⟨rfl, hT7, hB7⟩
        have hbw7 := But.below hbw hB7 (fun b h => by have h2 : b = g := h; omega) hbw.size
        clear hT hB7 hbw
        go_wp2_with fail
        refine (terr_tk g e1 p1 l w7 hT7.tk).mono ?_
        rintro e wq ⟨rfl, rfl⟩
        go_wp2_with fail
        refine (terr_tk g e1 p1 l w7 hT7.tk).mono ?_
        rintro e wq ⟨rfl, rfl⟩
        go_wp2_with fail
        refine bodyPost_ret (results_tmp3 rfl _ _ _) rfl ?_
        rw [HF.out]
        exact get_bad e1 hbw7
theorem tagget_any (t : Nat) (A : Option Addr) (c : Nat) (l : List UInt8) (w : World) (ht : Tab w t) (hl : SeesB w A l) (hc : l.length ≤ c) (hcm : c ≤ maxLen) (hlen : l.length ≤ 140737488355328) (hTabs : Tabs w) :
    Calls Tryz.prog 29 #[.pointer (some ⟨t, 0, none⟩), .slice A l.length c] w (GetGPost w (getG l)) := by
  cases hst : startsG l with
  | false =>
    rw [show getG l = (31, 0, []) by unfold getG; rw [if_pos hst]]
    exact tagget_kind t A c l w hl hst
  | true =>
    by_cases h3 : l.length < 3
    · rw [show getG l = (10, 0, []) by unfold getG; rw [if_neg (by rw [hst]; simp), if_pos h3]]
      by_cases h2 : l.length < 2
      · exact tagget_few t A c l w hl hst hlen 10 0 0 [] (gRaw_end l h2) (gU_err 10 0 1 l (by decide))
      · exact tagget_few t A c l w hl hst hlen 0 2 2 _ (gRaw_ok l (by omega)) (gU_end 2 1 l (by omega) (by omega) (by omega))
    · exact tagget_long t A c l w ht hl hc hcm hst hlen hTabs (by omega)
end Go.Proofs.YtkmhmehofipehaaGreatDoor
/- Info read. -/
namespace Go.Proofs.YtkmhmehofipehaaGreatDoor
set_option linter.unusedVariables false
open Go.RowKit
end Go.Proofs.YtkmhmehofipehaaGreatDoor
/- Two infos compared. -/
namespace Go.Proofs.YtkmhmehofipehaaGreatDoor
set_option linter.unusedVariables false
open Go.RowKit
def sameF (ch bi ra ch' bi' ra' : Int) : Bool := (ch == ch') && ((bi == bi') && (ra == ra'))
def sameI (k ch bi ra bl sh k' ch' bi' ra' bl' sh' : Int) : Bool := (k == k') && (sameF ch bi ra ch' bi' ra' && ((bl == bl') && (sh == sh')))
theorem eq_info (k ch bi ra bl sh k' ch' bi' ra' bl' sh' : Int) (w : World) :
    (Op.equalIn 10000 27 (.agg #[.int .i64 k, .int .i64 ch, .int .i64 bi, .int .i64 ra, .int .i64 bl, .int .i64 sh]) (.agg #[.int .i64 k', .int .i64 ch', .int .i64 bi', .int .i64 ra', .int .i64 bl', .int .i64 sh'])).run Tryz.prog w = .ok (sameI k ch bi ra bl sh k' ch' bi' ra' bl' sh') w := by
  have u3 := Tryz.underlying3
  have a3 := Tryz.isAgg3
  have z3 := Tryz.sizeOf3
  have a4 := Tryz.isAgg25
  have z4 := Tryz.sizeOf25
  have hS : Tryz.prog.underlying 27 = some (.struct (Tryz.prog.fieldsOf 27)) := by kernel_rfl
  have hp : Tryz.prog.stoodInHeld 27 = false := by kernel_rfl
  rw [show (10000 : Nat) = 9999 + 1 from rfl, run_equalIn_agg w 9999 27 _ _ hS hp]
  simp only [Program.fieldsOf, Tryz.underlying27]
  go_simp
  unfold sameI sameF
  by_cases h1 : k = k' <;> by_cases h2 : bl = bl' <;> by_cases h3 : sh = sh' <;> by_cases h4 : ch = ch' <;> by_cases h5 : bi = bi' <;> by_cases h6 : ra = ra' <;> simp [h1, h2, h3, h4, h5, h6]
end Go.Proofs.YtkmhmehofipehaaGreatDoor
