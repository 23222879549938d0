/- grade.Turned -/
import Derived.Lib.SliceRun
import Derived.Deep.Cut
import Derived.Laws.BitsAllLaws
import Derived.Laws.BitsLemmas
import Derived.Deep.AppendLies
import Derived.Test.YtfegbaokcbjllaaGreatKWd
import Derived.Test.YtfegbaokcbjllaaGreatKSeg
import Derived.Test.YtfegbaokcbjllaaGreatKRev
import Derived.Test.YtfegbaokcbjllaaGreatKTurnD
import Derived.Test.YtfegbaokcbjllaaGreatKMov
/- slices.Clone at spots, notches, numbers -/
namespace Go.Proofs.YtfegbaokcbjllaaGreat
open Go.RowKit
/- notches are pairs of numbers, as spots are; only the row's type is another one -/
def OwnN (w : World) (base : Nat) (v : Value) (l : List Spot) : Prop := w.ownsRow base 79 2 v l.length (scells l)
theorem notch_info : (Tryz.prog.info? 79).map (fun i => (i.zero, i.size, i.bytes)) = some (some (.agg #[.int .i64 0, .int .i64 0]), 2, 16) := by kernel_rfl
theorem SpotsAt.cellsA {w : World} {a : Addr} {l : List Spot} (h : SpotsAt w (some a) l) : ∀ j u, (scells l)[j]? = some u → w.cell? (a.add j) = some u := by
 intro j u hu
 have hj : 0 < l.length := by
  rcases Nat.eq_zero_or_pos l.length with h0 | h0
  ·rw [List.eq_nil_of_length_eq_zero h0] at hu; simp [scells] at hu
  ·exact h0
 obtain ⟨b, off, e, _⟩ := h.g hj
 injection e with e
 subst e
 exact h.cells j u hu
theorem IntsAt.cellsA {w : World} {a : Addr} {l : List Int} (h : IntsAt w (some a) l) : ∀ j u, (icells l)[j]? = some u → w.cell? (a.add j) = some u := by
 intro j u hu
 have hj : 0 < l.length := by
  rcases Nat.eq_zero_or_pos l.length with h0 | h0
  ·rw [List.eq_nil_of_length_eq_zero h0] at hu; simp [icells] at hu
  ·exact h0
 obtain ⟨b, off, e, _⟩ := h.g hj
 injection e with e
 subst e
 exact h.cells j u hu
def RetN (w : World) (l : List Spot) (e : Ending) (w' : World) : Prop := ∃ v, e = .returned v ∧ OwnN w' w.heap.size v l ∧ Ext w w'
def RetI (w : World) (l : List Int) (e : Ending) (w' : World) : Prop := ∃ v, e = .returned v ∧ OwnI w' w.heap.size v l ∧ Ext w w'
set_option maxRecDepth 100000 in
set_option maxHeartbeats 1000000 in
theorem clone_spots (A : Option Addr) (n c : Nat) (l : List Spot) (w : World) (hp : plainA A) (ha : SpotsAt w A l) (hl : l.length = n) (hbig : n * 16 ≤ 140737488355328) :
  Calls Tryz.prog 53 #[.slice A n c] w (RetS w l) := by
 have HL := Lib.hid hl; clear hl
 have HA := Lib.hid ha; clear ha
 have q22 : ∀ (w : World) (a : Option Addr) (n c n' c' : Nat), (binOp .eql 38 (.slice a n c) (.slice none n' c')).run Tryz.prog w = .ok (.bool a.isNone) w := fun w a n c n' c' => Lib.run_eql_slice_nil w _ _ a n c n' c' Tryz.underlying38
 cases A with
 |none =>
  obtain rfl : l = [] := HA.out.nilA
  go_enter Tryz.func53, Tryz.ntmps53
  go_wp2_with fail
  go_ret
  exact ⟨_, rfl, OwnS.nil _ _, Ext.refl _⟩
 |some a =>
  obtain ⟨b, off, rfl⟩ := hp a rfl
  obtain ⟨i0, hi0, hi1⟩ := Option.map_eq_some_iff.1 spot_info
  simp only [Prod.mk.injEq] at hi1
  obtain ⟨hz0, hz1, hz2⟩ := hi1
  have HX := Lib.hid (HA.out.cells)
  go_enter Tryz.func53, Tryz.ntmps53
  go_wp2_with (at_builtin; refine wpList_append_own _ rfl _ _ 38 rfl w.heap.size 49 i0 (.agg #[.int .i64 0, .int .i64 0]) 2 16 Tryz.underlying38 hi0 hz0 hz1 hz2 rfl (by decide) _ _ _ rfl (World.ownsRow_made w #[] 0 (Nat.le_refl _) (Nat.zero_le _) rfl) ⟨b, off, none⟩ n c (scells l) rfl ?qc1 ?qc2 ?qc3 ?qc4 ?qc5 ?qc6 ?_)
  case qc1 => rw [scells_length, HL.out]
  case qc2 => intro j u hj; exact (Lib.cell?_alloc_some _ (HX.out j u hj))
  case qc3 => exact scells_one' l
  case qc4 => unfold maxLen; omega
  case qc5 => omega
  case qc6 => simp
  intro v' w1 hown hgrow hnil
  go_wp2_with fail
  go_ret
  refine ⟨v', rfl, ?_, ?_⟩
  ·unfold OwnS; rw [HL.out]; simpa using hown
  ·exact ((Ext.refl w).alloc _).grown hgrow (by intro k hk; simp [Value.ownBlock] at hk; omega)
set_option maxRecDepth 100000 in
set_option maxHeartbeats 1000000 in
theorem clone_notches (A : Option Addr) (n c : Nat) (l : List Spot) (w : World) (ha : SpotsAt w A l) (hl : l.length = n) (hbig : n * 16 ≤ 140737488355328) :
  Calls Tryz.prog 27 #[.slice A n c] w (RetN w l) := by
 have HL := Lib.hid hl; clear hl
 have HA := Lib.hid ha; clear ha
 have q22 : ∀ (w : World) (a : Option Addr) (n c n' c' : Nat), (binOp .eql 37 (.slice a n c) (.slice none n' c')).run Tryz.prog w = .ok (.bool a.isNone) w := fun w a n c n' c' => Lib.run_eql_slice_nil w _ _ a n c n' c' Tryz.underlying37
 cases A with
 |none =>
  obtain rfl : l = [] := HA.out.nilA
  go_enter Tryz.func27, Tryz.ntmps27
  go_wp2_with fail
  go_ret
  exact ⟨_, rfl, World.ownsRow_nil _ _ _ _, Ext.refl _⟩
 |some a =>
  obtain ⟨i0, hi0, hi1⟩ := Option.map_eq_some_iff.1 notch_info
  simp only [Prod.mk.injEq] at hi1
  obtain ⟨hz0, hz1, hz2⟩ := hi1
  have HX := Lib.hid (HA.out.cellsA)
  go_enter Tryz.func27, Tryz.ntmps27
  go_wp2_with (at_builtin; refine wpList_append_own _ rfl _ _ 37 rfl w.heap.size 79 i0 (.agg #[.int .i64 0, .int .i64 0]) 2 16 Tryz.underlying37 hi0 hz0 hz1 hz2 rfl (by decide) _ _ _ rfl (World.ownsRow_made w #[] 0 (Nat.le_refl _) (Nat.zero_le _) rfl) a n c (scells l) rfl ?qc1 ?qc2 ?qc3 ?qc4 ?qc5 ?qc6 ?_)
  case qc1 => rw [scells_length, HL.out]
  case qc2 => intro j u hj; exact (Lib.cell?_alloc_some _ (HX.out j u hj))
  case qc3 => exact scells_one' l
  case qc4 => unfold maxLen; omega
  case qc5 => omega
  case qc6 => simp
  intro v' w1 hown hgrow hnil
  go_wp2_with fail
  go_ret
  refine ⟨v', rfl, ?_, ?_⟩
  ·unfold OwnN; rw [HL.out]; simpa using hown
  ·exact ((Ext.refl w).alloc _).grown hgrow (by intro k hk; simp [Value.ownBlock] at hk; omega)
set_option maxRecDepth 100000 in
set_option maxHeartbeats 1000000 in
theorem clone_ints (A : Option Addr) (n c : Nat) (l : List Int) (w : World) (ha : IntsAt w A l) (hl : l.length = n) (hbig : n * 8 ≤ 140737488355328) :
  Calls Tryz.prog 26 #[.slice A n c] w (RetI w l) := by
 have HL := Lib.hid hl; clear hl
 have HA := Lib.hid ha; clear ha
 have q22 : ∀ (w : World) (a : Option Addr) (n c n' c' : Nat), (binOp .eql 23 (.slice a n c) (.slice none n' c')).run Tryz.prog w = .ok (.bool a.isNone) w := fun w a n c n' c' => Lib.run_eql_slice_nil w _ _ a n c n' c' Tryz.underlying23
 cases A with
 |none =>
  obtain rfl : l = [] := HA.out.nilA
  go_enter Tryz.func26, Tryz.ntmps26
  go_wp2_with fail
  go_ret
  exact ⟨_, rfl, OwnI.nil _ _, Ext.refl _⟩
 |some a =>
  obtain ⟨i0, hi0, hi1⟩ := Option.map_eq_some_iff.1 int_info
  simp only [Prod.mk.injEq] at hi1
  obtain ⟨hz0, hz1, hz2⟩ := hi1
  have HX := Lib.hid (HA.out.cellsA)
  go_enter Tryz.func26, Tryz.ntmps26
  go_wp2_with (at_builtin; refine wpList_append_own _ rfl _ _ 23 rfl w.heap.size 3 i0 (.int .i64 0) 1 8 Tryz.underlying23 hi0 hz0 hz1 hz2 rfl (by decide) _ _ _ rfl (World.ownsRow_made w #[] 0 (Nat.le_refl _) (Nat.zero_le _) rfl) a n c (icells l) rfl ?qc1 ?qc2 ?qc3 ?qc4 ?qc5 ?qc6 ?_)
  case qc1 => simp [icells, HL.out]
  case qc2 => intro j u hj; exact (Lib.cell?_alloc_some _ (HX.out j u hj))
  case qc3 => intro u hu; obtain ⟨x, _, rfl⟩ := List.mem_map.1 hu; rfl
  case qc4 => unfold maxLen; omega
  case qc5 => omega
  case qc6 => simp
  intro v' w1 hown hgrow hnil
  go_wp2_with fail
  go_ret
  refine ⟨v', rfl, ?_, ?_⟩
  ·unfold OwnI; rw [HL.out]; simpa using hown
  ·exact ((Ext.refl w).alloc _).grown hgrow (by intro k hk; simp [Value.ownBlock] at hk; omega)
def mirAt (L a : Int) : Int := if 0 ≤ a ∧ a ≤ L then L - a else 0
def mirN (es : List Edge) (k : Nat) (a : Int) : Spot := (((es.length - k) % es.length : Nat), mirAt (lengthN (gE es k).2) a)
theorem lengthN_le (l : List Spot) : lengthN l ≤ 1000000000000 := by
 unfold lengthN
 split
 ·omega
 ·rename_i h
  obtain ⟨h2, h40, hin⟩ := lcheck_zero (l := l) (by omega)
  have := lenTo_le hin (l.length - 1) (by omega)
  have : (l.length - 1) * 4294967296 ≤ 39 * 4294967296 := Nat.mul_le_mul (by omega) (by omega)
  omega
theorem sub_mod_facts (n k : Nat) (hk : k < n) : -(k : Int) % n = (((n - k) % n : Nat) : Int) ∧ ((n : Int) - k) % n = (((n - k) % n : Nat) : Int) := by
 have h : ((n : Int) - k) % n = (((n - k) % n : Nat) : Int) := by rw [Int.natCast_emod, Int.ofNat_sub (by omega)]
 refine ⟨?_, h⟩
 rw [← h, show (n : Int) - k = -k + n from by omega]; simp
set_option maxRecDepth 100000 in
set_option maxHeartbeats 1000000 in
theorem mirrored_any (A : Option Addr) (n c k : Nat) (a : Int) (l : List Edge) (w : World) (ha : EdgesAt w A l) (hl : l.length = n) (hk : k < n) (hn : n ≤ 1000) :
  Calls Tryz.prog 54 #[.agg #[.int .i64 k, .int .i64 a], .slice A n c] w fun e w' => e = .returned (SV (mirN l k a)) ∧ Ext w w' := by
 obtain ⟨b, off, B, cap, rfl, hn0, hc0, hS, hcap, hcap'⟩ := ha.g (k := k) (by omega)
 have hLN := lengthN_le (gE l k).2
 obtain ⟨hm1, hm2⟩ := sub_mod_facts n k hk
 have hm3 : (n - k) % n < n := Nat.mod_lt _ (by omega)
 have HS := Lib.hid hS; clear hS
 have hnz : ((n : Int) == 0) = false := by simp; omega
 obtain ⟨ln, hln⟩ : ∃ ln, ln = (gE l k).2 := ⟨_, rfl⟩
 rw [← hln] at hc0 HS hLN hcap
 have HR : Hid (mirN l k a = ((((n - k) % n : Nat) : Int), mirAt (lengthN ln) a)) := by show mirN l k a = _; rw [mirN, hl, hln]
 clear ha hln hn0 hl
 have hbl : b < w.heap.size := cell_lt hc0
 obtain ⟨LN, hLN'⟩ : ∃ LN, LN = lengthN ln := ⟨_, rfl⟩
 have HLE := Lib.hid hLN'
 rw [← hLN'] at HR hLN
 have HLN := Lib.hid hLN'; clear hLN'
 go_enter Tryz.func54, Tryz.ntmps54
 go_wp2_with fail
 refine (length_any B ln.length cap ln _ ((HS.out.ext ((Ext.refl _).alloc _)).ext ((Ext.refl _).alloc _)) rfl).mono ?_
 rintro e w1 ⟨rfl, he1⟩
 have hx1 : Ext w w1 := (((Ext.refl w).alloc _).alloc _).trans he1
 have c0 : w1.cell? ⟨w.heap.size, 0, none⟩ = some (.int .i64 k) := he1.cell (by simp [go_sem])
 have c1 : w1.cell? ⟨w.heap.size, 1, none⟩ = some (.int .i64 a) := he1.cell (by simp [go_sem])
 have d0 : w1.cell? ⟨w.heap.size + 1, 0, none⟩ = some (.int .i64 0) := he1.cell (by simp [go_sem])
 have d1 : w1.cell? ⟨w.heap.size + 1, 1, none⟩ = some (.int .i64 0) := he1.cell (by simp [go_sem])
 have f0 : w1.frozen? ⟨w.heap.size + 1, 0, none⟩ = false := he1.frz (v := .int .i64 0) (by simp [go_sem]) (by simp [go_sem])
 have f1 : w1.frozen? ⟨w.heap.size + 1, 1, none⟩ = false := he1.frz (v := .int .i64 0) (by simp [go_sem]) (by simp [go_sem])
 have hw1 : w.heap.size < w1.heap.size := cell_lt c0
 have hw2 : w.heap.size + 1 < w1.heap.size := cell_lt d0
 have HX := Lib.hid hx1
 clear he1 hx1 hc0
 rw [← HLE.out]
 have hsplit : lcheck ln = 0 ∨ lcheck ln ≠ 0 ∧ LN = 0 := by
  rcases Classical.em (lcheck ln = 0) with h | h
  ·exact .inl h
  ·exact .inr ⟨h, by rw [HLE.out]; unfold lengthN; rw [if_pos h]⟩
 obtain ⟨cz, hcz⟩ : ∃ cz, cz = lcheck ln := ⟨_, rfl⟩
 rw [← hcz] at hsplit ⊢
 clear hcz
 by_cases hp : 0 ≤ a
 ·by_cases hq : a ≤ LN
  ·have hv : mirAt LN a = LN - a := by unfold mirAt; rw [if_pos ⟨hp, hq⟩]
   have HV := Lib.hid hv; clear hv
   rcases hsplit with rfl | ⟨hne, rfl⟩
   ·go_wp2_with fail
    refine bodyPost_ret (v := SV (mirN l k a)) (by rw [HR.out, HV.out]; simp [results, Tryz.results54, go_sem, d0, d1]) rfl ⟨rfl, ?_⟩
    exact (HX.out.setCell (by simp) _).setCell (by simp) _
   ·have hd : (cz == 0) = false := by simp [hne]
    obtain rfl : a = 0 := by omega
    go_wp2_with fail
    refine bodyPost_ret (v := SV (mirN l k 0)) (by rw [HR.out, HV.out]; simp [results, Tryz.results54, go_sem, d0, d1]) rfl ⟨rfl, ?_⟩
    exact (HX.out.setCell (by simp) _).setCell (by simp) _
  ·have hv : mirAt LN a = 0 := by unfold mirAt; rw [if_neg (by omega)]
   have HV := Lib.hid hv; clear hv
   rcases hsplit with rfl | ⟨hne, rfl⟩
   ·go_wp2_with fail
    refine bodyPost_ret (v := SV (mirN l k a)) (by rw [HR.out, HV.out]; simp [results, Tryz.results54, go_sem, d0, d1]) rfl ⟨rfl, ?_⟩
    exact (HX.out.setCell (by simp) _).setCell (by simp) _
   ·have hd : (cz == 0) = false := by simp [hne]
    have hq' : ¬ a ≤ 0 := by omega
    go_wp2_with fail
    refine bodyPost_ret (v := SV (mirN l k a)) (by rw [HR.out, HV.out]; simp [results, Tryz.results54, go_sem, d0, d1]) rfl ⟨rfl, ?_⟩
    exact (HX.out.setCell (by simp) _).setCell (by simp) _
 ·have hv : mirAt LN a = 0 := by unfold mirAt; rw [if_neg (by omega)]
  have HV := Lib.hid hv; clear hv
  rcases hsplit with rfl | ⟨hne, rfl⟩
  ·go_wp2_with fail
   refine bodyPost_ret (v := SV (mirN l k a)) (by rw [HR.out, HV.out]; simp [results, Tryz.results54, go_sem, d0, d1]) rfl ⟨rfl, ?_⟩
   exact (HX.out.setCell (by simp) _).setCell (by simp) _
  ·have hd : (cz == 0) = false := by simp [hne]
   go_wp2_with fail
   refine bodyPost_ret (v := SV (mirN l k a)) (by rw [HR.out, HV.out]; simp [results, Tryz.results54, go_sem, d0, d1]) rfl ⟨rfl, ?_⟩
   exact (HX.out.setCell (by simp) _).setCell (by simp) _
def mixS (f : Nat → Spot) (L : List Spot) (k : Nat) : List Spot := (List.range L.length).map fun p => if p < k then f p else gS L p
theorem mixS_len (f : Nat → Spot) (L : List Spot) (k : Nat) : (mixS f L k).length = L.length := by simp [mixS]
theorem mixS_get {f : Nat → Spot} {L : List Spot} {k p : Nat} (hp : p < L.length) : gS (mixS f L k) p = if p < k then f p else gS L p := by simp [gS, mixS, hp]
theorem mixS_zero (f : Nat → Spot) (L : List Spot) : mixS f L 0 = L := list_ext_gS (mixS_len f L 0) fun p hp => by
 rw [mixS_len] at hp
 rw [mixS_get hp, if_neg (by omega)]
theorem mixS_succ {f : Nat → Spot} {L : List Spot} {k : Nat} (h : k < L.length) : (mixS f L k).set k (f k) = mixS f L (k + 1) :=
 list_ext_gS (by simp [mixS_len]) fun p hp => by
  simp [mixS_len] at hp
  rw [gS_set (by rw [mixS_len]; omega), mixS_get hp, mixS_get hp]
  by_cases h1 : p = k
  ·subst h1; rw [if_pos rfl, if_pos (by omega)]
  ·rw [if_neg h1]
   by_cases h2 : p < k
   ·rw [if_pos h2, if_pos (by omega)]
   ·rw [if_neg h2, if_neg (by omega)]
theorem mixS_skip {f : Nat → Spot} {L : List Spot} {k : Nat} (h : f k = gS L k) : mixS f L k = mixS f L (k + 1) :=
 list_ext_gS (by simp [mixS_len]) fun p hp => by
  rw [mixS_len] at hp
  rw [mixS_get hp, mixS_get hp]
  by_cases h1 : p = k
  ·subst h1; rw [if_neg (by omega), if_pos (by omega), h]
  ·by_cases h2 : p < k
   ·rw [if_pos h2, if_pos (by omega)]
   ·rw [if_neg h2, if_neg (by omega)]
def mixI (f : Nat → Int) (L : List Int) (k : Nat) : List Int := (List.range L.length).map fun p => if p < k then f p else gI L p
theorem mixI_len (f : Nat → Int) (L : List Int) (k : Nat) : (mixI f L k).length = L.length := by simp [mixI]
theorem mixI_get {f : Nat → Int} {L : List Int} {k p : Nat} (hp : p < L.length) : gI (mixI f L k) p = if p < k then f p else gI L p := by simp [gI, mixI, hp]
theorem mixI_zero (f : Nat → Int) (L : List Int) : mixI f L 0 = L := list_ext_gI (mixI_len f L 0) fun p hp => by
 rw [mixI_len] at hp
 rw [mixI_get hp, if_neg (by omega)]
theorem mixI_succ {f : Nat → Int} {L : List Int} {k : Nat} (h : k < L.length) : (mixI f L k).set k (f k) = mixI f L (k + 1) :=
 list_ext_gI (by simp [mixI_len]) fun p hp => by
  simp [mixI_len] at hp
  rw [gI_set (by rw [mixI_len]; omega), mixI_get hp, mixI_get hp]
  by_cases h1 : p = k
  ·subst h1; rw [if_pos rfl, if_pos (by omega)]
  ·rw [if_neg h1]
   by_cases h2 : p < k
   ·rw [if_pos h2, if_pos (by omega)]
   ·rw [if_neg h2, if_neg (by omega)]
def mirCF (n : Nat) (L : List Spot) (j : Nat) : Spot := gS L ((n - j + 1) % n)
def mirWF (n : Nat) (L : List Int) (j : Nat) : Int := gI L ((n - j) % n)
def mirNF (es : List Edge) (L : List Spot) (j : Nat) : Spot := if 0 ≤ (gS L j).1 ∧ (gS L j).1 < es.length then mirN es (gS L j).1.toNat (gS L j).2 else gS L j
def mirC (n : Nat) (L : List Spot) : List Spot := if L.length = n then mixS (mirCF n L) L n else L
def mirW (n : Nat) (L : List Int) : List Int := if L.length = n then mixI (mirWF n L) L n else L
def mirNs (es : List Edge) (L : List Spot) : List Spot := mixS (mirNF es L) L L.length
/- the memory in which mirror works: the three rows of the result, the box of p (block pb), the result (block rb) -/
structure MirS (K : Nat → Prop) (w0 w : World) (B pb rb : Nat) (pc rc : List Value) (vC vW vN : Value) (LC : List Spot) (LW : List Int) (LN : List Spot) (wr : World) : Prop where
 c : OwnT 49 wr B vC LC
 i : OwnI wr B vW LW
 n : OwnT 79 wr B vN LN
 p : Blk 40 wr pb pc
 r : Blk 40 wr rb rc
 k : Kept K w wr
 e : Ext w0 wr
section
variable {K : Nat → Prop} {w0 w : World} {B pb rb : Nat} {pc rc : List Value} {vC vW vN : Value} {LC : List Spot} {LW : List Int} {LN : List Spot} {wr : World}
theorem MirS.ext (h : MirS K w0 w B pb rb pc rc vC vW vN LC LW LN wr) {w' : World} (he : Ext wr w') : MirS K w0 w B pb rb pc rc vC vW vN LC LW LN w' :=
 ⟨own_ext h.c he, own_ext h.i he, own_ext h.n he, h.p.ext he, h.r.ext he, h.k.trans (he.kept K), h.e.trans he⟩
theorem MirS.set0 (h : MirS K w0 w B pb rb pc rc vC vW vN LC LW LN wr) {g : Nat} {t : TypeId} {cs : List Value} (hB : Blk t wr g cs) (hg : B ≤ g) (hw : w0.heap.size ≤ B) (hK : K g) (hp : t ≠ 40) (j : Nat) (u : Value) :
  (t ≠ 49 → OwnT 49 (wr.setCell ⟨g, j, none⟩ u) B vC LC) ∧ (t ≠ 3 → OwnI (wr.setCell ⟨g, j, none⟩ u) B vW LW) ∧ (t ≠ 79 → OwnT 79 (wr.setCell ⟨g, j, none⟩ u) B vN LN) ∧
  Blk 40 (wr.setCell ⟨g, j, none⟩ u) pb pc ∧ Blk 40 (wr.setCell ⟨g, j, none⟩ u) rb rc ∧ Kept K w (wr.setCell ⟨g, j, none⟩ u) ∧ Ext w0 (wr.setCell ⟨g, j, none⟩ u) ∧ Blk t (wr.setCell ⟨g, j, none⟩ u) g (cs.set j u) :=
 ⟨fun ht => own_set h.c (own_blk_ne h.c hB (Ne.symm ht)) u, fun ht => own_set h.i (own_blk_ne h.i hB (Ne.symm ht)) u, fun ht => own_set h.n (own_blk_ne h.n hB (Ne.symm ht)) u,
  h.p.other (h.p.ne hB (Ne.symm hp)) u, h.r.other (h.r.ne hB (Ne.symm hp)) u, h.k.set (.inr hK) u, h.e.setCell (Nat.le_trans hw hg) u, hB.set j u⟩
theorem MirS.setC {A : Option Addr} {n cap : Nat} (h : MirS K w0 w B pb rb pc rc (.slice A n cap) vW vN LC LW LN wr) (hK : ∀ k, (Value.slice A n cap).ownBlock = some k → K k) (hw : w0.heap.size ≤ B) {k : Nat} (hk : k < n) :
  ∃ g, A = some ⟨g, 0, none⟩ ∧ LC.length = n ∧ wr.cell? ⟨g, k * 2, none⟩ = some (.int .i64 (gS LC k).1) ∧ wr.cell? ⟨g, k * 2 + 1, none⟩ = some (.int .i64 (gS LC k).2) ∧ wr.frozen? ⟨g, k * 2, none⟩ = false ∧ wr.frozen? ⟨g, k * 2 + 1, none⟩ = false ∧ g ≠ pb ∧ g ≠ rb ∧
   ∀ s : Spot, MirS K w0 w B pb rb pc rc (.slice A n cap) vW vN (LC.set k s) LW LN ((wr.setCell ⟨g, k * 2, none⟩ (.int .i64 s.1)).setCell ⟨g, k * 2 + 1, none⟩ (.int .i64 s.2)) := by
 obtain ⟨g, rfl, hb, hl, ⟨cs, hB⟩, c0, c1, f0, f1, hs⟩ := own_pair h.c hk
 refine ⟨g, rfl, hl, c0, c1, f0, f1, (h.p.ne hB (by decide)).symm, (h.r.ne hB (by decide)).symm, fun s => ?_⟩
 obtain ⟨_, a2, a3, a4, a5, a6, a7, a8⟩ := h.set0 hB hb hw (hK g rfl) (by decide) (k * 2) (.int .i64 s.1)
 have h1 : MirS K w0 w B pb rb pc rc (.slice none 0 0) vW vN [] LW LN (wr.setCell ⟨g, k * 2, none⟩ (.int .i64 s.1)) := ⟨World.ownsRow_nil _ _ _ _, a2 (by decide), a3 (by decide), a4, a5, a6, a7⟩
 obtain ⟨_, b2, b3, b4, b5, b6, b7, _⟩ := h1.set0 a8 hb hw (hK g rfl) (by decide) (k * 2 + 1) (.int .i64 s.2)
 exact ⟨hs s, b2 (by decide), b3 (by decide), b4, b5, b6, b7⟩
theorem MirS.setN {A : Option Addr} {n cap : Nat} (h : MirS K w0 w B pb rb pc rc vC vW (.slice A n cap) LC LW LN wr) (hK : ∀ k, (Value.slice A n cap).ownBlock = some k → K k) (hw : w0.heap.size ≤ B) {k : Nat} (hk : k < n) :
  ∃ g, A = some ⟨g, 0, none⟩ ∧ LN.length = n ∧ wr.cell? ⟨g, k * 2, none⟩ = some (.int .i64 (gS LN k).1) ∧ wr.cell? ⟨g, k * 2 + 1, none⟩ = some (.int .i64 (gS LN k).2) ∧ wr.frozen? ⟨g, k * 2, none⟩ = false ∧ wr.frozen? ⟨g, k * 2 + 1, none⟩ = false ∧ g ≠ pb ∧ g ≠ rb ∧
   ∀ s : Spot, MirS K w0 w B pb rb pc rc vC vW (.slice A n cap) LC LW (LN.set k s) ((wr.setCell ⟨g, k * 2, none⟩ (.int .i64 s.1)).setCell ⟨g, k * 2 + 1, none⟩ (.int .i64 s.2)) := by
 obtain ⟨g, rfl, hb, hl, ⟨cs, hB⟩, c0, c1, f0, f1, hs⟩ := own_pair h.n hk
 refine ⟨g, rfl, hl, c0, c1, f0, f1, (h.p.ne hB (by decide)).symm, (h.r.ne hB (by decide)).symm, fun s => ?_⟩
 obtain ⟨a1, a2, _, a4, a5, a6, a7, a8⟩ := h.set0 hB hb hw (hK g rfl) (by decide) (k * 2) (.int .i64 s.1)
 have h1 : MirS K w0 w B pb rb pc rc vC vW (.slice none 0 0) LC LW [] (wr.setCell ⟨g, k * 2, none⟩ (.int .i64 s.1)) := ⟨a1 (by decide), a2 (by decide), World.ownsRow_nil _ _ _ _, a4, a5, a6, a7⟩
 obtain ⟨b1, b2, _, b4, b5, b6, b7, _⟩ := h1.set0 a8 hb hw (hK g rfl) (by decide) (k * 2 + 1) (.int .i64 s.2)
 exact ⟨b1 (by decide), b2 (by decide), hs s, b4, b5, b6, b7⟩
theorem MirS.setI {A : Option Addr} {n cap : Nat} (h : MirS K w0 w B pb rb pc rc vC (.slice A n cap) vN LC LW LN wr) (hK : ∀ k, (Value.slice A n cap).ownBlock = some k → K k) (hw : w0.heap.size ≤ B) {k : Nat} (hk : k < n) :
  ∃ g, A = some ⟨g, 0, none⟩ ∧ LW.length = n ∧ wr.cell? ⟨g, k, none⟩ = some (.int .i64 (gI LW k)) ∧ wr.frozen? ⟨g, k, none⟩ = false ∧ g ≠ pb ∧ g ≠ rb ∧
   ∀ x : Int, MirS K w0 w B pb rb pc rc vC (.slice A n cap) vN LC (LW.set k x) LN (wr.setCell ⟨g, k, none⟩ (.int .i64 x)) := by
 obtain ⟨g, rfl, hb, hl, ⟨cs, hB⟩, c0, f0, hs⟩ := own_int h.i hk
 refine ⟨g, rfl, hl, c0, f0, (h.p.ne hB (by decide)).symm, (h.r.ne hB (by decide)).symm, fun s => ?_⟩
 obtain ⟨a1, _, a3, a4, a5, a6, a7, _⟩ := h.set0 hB hb hw (hK g rfl) (by decide) k (.int .i64 s)
 exact ⟨a1 (by decide), hs s, a3 (by decide), a4, a5, a6, a7⟩
end
def mirK (vC vW vN : Value) (k : Nat) : Prop := vC.ownBlock = some k ∨ vW.ownBlock = some k ∨ vN.ownBlock = some k
set_option maxRecDepth 100000 in
set_option maxHeartbeats 3200000 in
theorem mirror_any (nm nm' : ByteArray) (AE AN AC AW CC CW CN : Option Addr) (nE cE nN cN nC cC nW cW kC kW kN : Nat) (gr gr' : Int) (mt mt' : Bool) (vE : Value) (es : List Edge) (LC : List Spot) (ws : List Int) (ns : List Spot) (w0 w : World) (B rb : Nat)
  (h0 : Ext w0 w) (hB : w0.heap.size ≤ B) (hBw : B ≤ w.heap.size) (hE : EdgesAt w0 AE es) (hlE : es.length = nE) (hnE : nE ≤ 1000) (hW : IntsAt w0 AW ws) (hlW : ws.length = nW) (hnW : nW ≤ 1000) (hN : SpotsAt w0 AN ns) (hlN : ns.length = nN) (hnN : nN ≤ 1000) (hnC : nC ≤ 1000)
  (oC : OwnT 49 w B (.slice CC nC kC) LC) (oW : OwnI w B (.slice CW nW kW) ws) (oN : OwnT 79 w B (.slice CN nN kN) ns)
  (hr : Blk 40 w rb [.string nm', vE, .int .i64 gr', .slice CN nN kN, .slice CC nC kC, .slice CW nW kW, .bool mt']) :
  Calls Tryz.prog 28 #[.agg #[.string nm, .slice AE nE cE, .int .i64 gr, .slice AN nN cN, .slice AC nC cC, .slice AW nW cW, .bool mt], .pointer (some ⟨rb, 0, none⟩)] w fun e w' => e = .returned (.tuple #[]) ∧
   OwnT 49 w' B (.slice CC nC kC) (mirC nE LC) ∧ OwnI w' B (.slice CW nW kW) (mirW nE ws) ∧ OwnT 79 w' B (.slice CN nN kN) (mirNs es ns) ∧ Kept (mirK (.slice CC nC kC) (.slice CW nW kW) (.slice CN nN kN)) w w' ∧ Ext w0 w' := by
 have HLE := Lib.hid hlE; clear hlE
 have HLW := Lib.hid hlW; clear hlW
 have HLN := Lib.hid hlN; clear hlN
 have HE := Lib.hid hE; clear hE
 have HW := Lib.hid hW; clear hW
 have HN := Lib.hid hN; clear hN
 obtain ⟨K, hK⟩ : ∃ K, K = mirK (.slice CC nC kC) (.slice CW nW kW) (.slice CN nN kN) := ⟨_, rfl⟩
 have HKC : Hid (∀ k, (Value.slice CC nC kC).ownBlock = some k → K k) := fun k h => by rw [hK]; exact .inl h
 have HKW : Hid (∀ k, (Value.slice CW nW kW).ownBlock = some k → K k) := fun k h => by rw [hK]; exact .inr (.inl h)
 have HKN : Hid (∀ k, (Value.slice CN nN kN).ownBlock = some k → K k) := fun k h => by rw [hK]; exact .inr (.inr h)
 rw [← hK]
 have HK := Lib.hid hK; clear hK
 have HLC := Lib.hid oC.len
 have HB := Lib.hid hB; clear hB
 have HBW := Lib.hid hBw; clear hBw
 have HOC := Lib.hid oC; have HOW := Lib.hid oW; have HON := Lib.hid oN; have HR := Lib.hid hr; have H0 := Lib.hid h0
 clear oC oW oN hr h0
 go_enter Tryz.func28, Tryz.ntmps28
 go_upto_if 17 with fail
 refine wp_at fun W0 hW0 => ?_
 have hM0 : MirS K w0 w B w.heap.size rb [.string nm, .slice AE nE cE, .int .i64 gr, .slice AN nN cN, .slice AC nC cC, .slice AW nW cW, .bool mt] [.string nm', vE, .int .i64 gr', .slice CN nN kN, .slice CC nC kC, .slice CW nW kW, .bool mt'] (.slice CC nC kC) (.slice CW nW kW) (.slice CN nN kN) LC ws ns W0 := by
  have hx : Ext w W0 := by rw [hW0]; exact (Ext.refl _).alloc _
  exact ⟨own_ext HOC.out hx, own_ext HOW.out hx, own_ext HON.out hx, by rw [hW0]; exact Blk.new _ _ _, HR.out.ext hx, hx.kept _, H0.out.trans hx⟩
 have HM0 := Lib.hid hM0; clear hM0 hW0
 go_cut [] from 10 (fun wc => MirS K w0 w B w.heap.size rb [.string nm, .slice AE nE cE, .int .i64 gr, .slice AN nN cN, .slice AC nC cC, .slice AW nW cW, .bool mt] [.string nm', vE, .int .i64 gr', .slice CN nN kN, .slice CC nC kC, .slice CW nW kW, .bool mt'] (.slice CC nC kC) (.slice CW nW kW) (.slice CN nN kN) (mirC nE LC) ws ns wc)
 case first =>
  by_cases hcn : nC = nE
  ·subst hcn
   have r3 := HM0.out.r.cell 4
   simp only [List.getElem?_cons_succ, List.getElem?_cons_zero] at r3
   go_wp2_with fail
   refine (clone_spots CC nC kC LC _ HM0.out.c.plain.1 HM0.out.c.plain.2 HLC.out (by omega)).mono ?_
   rintro e w1 ⟨v1, rfl, ho1, he1⟩
   obtain ⟨A1, cap1, hv1, _, _, _⟩ := ho1.slice
   rw [HLC.out] at hv1
   subst hv1
   have HO1 := Lib.hid ho1; clear ho1
   clear r3
   go_wp2_with fail
   go_loopw [24] (fun i wr => ∃ k : Nat, k ≤ nC ∧ i = .int .i64 k ∧ MirS K w0 w B w.heap.size rb [.string nm, .slice AE nC cE, .int .i64 gr, .slice AN nN cN, .slice AC nC cC, .slice AW nW cW, .bool mt] [.string nm', vE, .int .i64 gr', .slice CN nN kN, .slice CC nC kC, .slice CW nW kW, .bool mt'] (.slice CC nC kC) (.slice CW nW kW) (.slice CN nN kN) (mixS (mirCF nC LC) LC k) ws ns wr ∧ OwnT 49 wr W0.heap.size (.slice A1 nC cap1) LC) (fun i _ => nC - (intOf i).toNat)
   case atStart => exact ⟨0, Nat.zero_le _, rfl, by rw [mixS_zero]; exact HM0.out.ext he1, HO1.out⟩
   case round =>
    obtain ⟨k, hk, rfl, hm, ho⟩ := hrel
    have HM := Lib.hid hm; have HO := Lib.hid ho; clear hm ho
    by_cases hlt : k < nC
    ·obtain ⟨g, hg, hl, c0, c1, f0, f1, hg1, hg2, hset⟩ := HM.out.setC HKC.out HB.out hlt
     subst hg
     have r4 := HM.out.r.cell 4
     simp only [List.getElem?_cons_succ, List.getElem?_cons_zero] at r4
     have hmod : (nC - k + 1) % nC < nC := Nat.mod_lt _ (by omega)
     obtain ⟨g1, hA1, hg1b, hg1l, hg1n, hs1⟩ := HO.out.spots (by omega)
     subst hA1
     obtain ⟨i0, i1⟩ := hs1.at1 (k := (nC - k + 1) % nC) (by rw [hg1n]; exact hmod)
     have HSET := Lib.hid hset; clear hset hs1
     have HL := Lib.hid hl; clear hl
     have HG1 := Lib.hid hg1n; clear hg1n
     obtain ⟨q0, q1, q2⟩ : 0 ≤ ((nC : Int) - k + 1) % nC ∧ ((nC : Int) - k + 1) % nC < nC ∧ (((nC : Int) - k + 1) % nC).toNat = (nC - k + 1) % nC := by
      have e : ((nC : Int) - k + 1) % nC = (((nC - k + 1) % nC : Nat) : Int) := by
       rw [show ((nC : Int) - k + 1) = ((nC - k + 1 : Nat) : Int) from by omega]; simp
      omega
     have hnz : ((nC : Int) == 0) = false := by simp; omega
     have hnk : 0 ≤ (nC : Int) - k + 1 := by omega
     simp only [Nat.zero_add] at i0 i1
     go_wp2_with fail
     go_region
     go_wp2_with fail
     go_roundw
     case rel =>
      have hgw : g < W0.heap.size := by
       rcases HM0.out.c.2 with ⟨e, _⟩ | ⟨g', cap', cur, e, _, hh, _⟩
       ·cases e
       ·injection e with e1; injection e1 with e1; injection e1 with e1; subst e1; exact heap_lt hh
      have hL : gS LC ((nC - k + 1) % nC) = mirCF nC LC k := rfl
      refine ⟨k + 1, by omega, by go_num, ?_, ?_⟩
      ·have h := HSET.out (mirCF nC LC k)
       rw [mixS_succ (by rw [HLC.out]; exact hlt)] at h
       exact h.ext ((Ext.refl _).drew)
      ·exact own_ext (own_set (own_set HO.out (by simp [Value.ownBlock]; omega) _) (by simp [Value.ownBlock]; omega) _) ((Ext.refl _).drew)
     case measure => simp [intOf]; omega
    ·obtain rfl : k = nC := by omega
     go_wp2_with fail
     go_meet
     case rel =>
      have h := HM.out
      rw [mirC, if_pos HLC.out]
      exact h
  ·have hcb : ((nC : Int) == nE) = false := by simp; omega
   go_wp2_with fail
   go_meet
   case rel =>
    rw [mirC, if_neg (by rw [HLC.out]; exact hcn)]
    exact HM0.out
 case rest =>
  have HM1 := Lib.hid hcut; clear hcut
  have p5 := HM1.out.p.cell 5
  simp only [List.getElem?_cons_succ, List.getElem?_cons_zero] at p5
  go_upto_if 47 with fail
  clear p5
  go_cut [] from 10 (fun wd => MirS K w0 w B w.heap.size rb [.string nm, .slice AE nE cE, .int .i64 gr, .slice AN nN cN, .slice AC nC cC, .slice AW nW cW, .bool mt] [.string nm', vE, .int .i64 gr', .slice CN nN kN, .slice CC nC kC, .slice CW nW kW, .bool mt'] (.slice CC nC kC) (.slice CW nW kW) (.slice CN nN kN) (mirC nE LC) (mirW nE ws) ns wd)
  case first =>
   by_cases hcn : nW = nE
   ·subst hcn
    go_wp2_with fail
    go_loopw [49] (fun i wr => ∃ k : Nat, k ≤ nW ∧ i = .int .i64 k ∧ MirS K w0 w B w.heap.size rb [.string nm, .slice AE nW cE, .int .i64 gr, .slice AN nN cN, .slice AC nC cC, .slice AW nW cW, .bool mt] [.string nm', vE, .int .i64 gr', .slice CN nN kN, .slice CC nC kC, .slice CW nW kW, .bool mt'] (.slice CC nC kC) (.slice CW nW kW) (.slice CN nN kN) (mirC nW LC) (mixI (mirWF nW ws) ws k) ns wr) (fun i _ => nW - (intOf i).toNat)
    case atStart => exact ⟨0, Nat.zero_le _, rfl, by rw [mixI_zero]; exact HM1.out⟩
    case round =>
     obtain ⟨k, hk, rfl, hm⟩ := hrel
     have HM := Lib.hid hm; clear hm
     by_cases hlt : k < nW
     ·obtain ⟨g, hg, hl, c0, f0, hg1, hg2, hset⟩ := HM.out.setI HKW.out HB.out hlt
      subst hg
      have r5 := HM.out.r.cell 5
      have p5 := HM.out.p.cell 5
      simp only [List.getElem?_cons_succ, List.getElem?_cons_zero] at r5 p5
      have hmod : (nW - k) % nW < nW := Nat.mod_lt _ (by omega)
      obtain ⟨b, off, rfl, i0⟩ := (HW.out.ext HM.out.e).g (k := (nW - k) % nW) (by rw [HLW.out]; exact hmod)
      have HSET := Lib.hid hset; clear hset
      have HL := Lib.hid hl; clear hl
      obtain ⟨q0, q1, q2⟩ : 0 ≤ (-(k : Int)) % nW ∧ (-(k : Int)) % nW < nW ∧ ((-(k : Int)) % nW).toNat = (nW - k) % nW := by
       have e := (sub_mod_facts nW k hlt).1
       omega
      have hnz : ((nW : Int) == 0) = false := by simp; omega
      have hnk : 0 ≤ (nW : Int) - k := by omega
      go_wp2_with fail
      go_region
      go_wp2_with fail
      go_roundw
      case rel =>
       refine ⟨k + 1, by omega, by go_num, ?_⟩
       have h := HSET.out (mirWF nW ws k)
       rw [mixI_succ (by rw [HLW.out]; exact hlt)] at h
       exact h.ext ((Ext.refl _).drew)
      case measure => simp [intOf]; omega
     ·obtain rfl : k = nW := by omega
      go_wp2_with fail
      go_meet
      case rel =>
       have h := HM.out
       rw [mirW, if_pos HLW.out]
       exact h
   ·have hcb : ((nW : Int) == nE) = false := by simp; omega
    go_wp2_with fail
    go_meet
    case rel =>
     rw [mirW, if_neg (by rw [HLW.out]; exact hcn)]
     exact HM1.out
  case rest =>
   have HM2 := Lib.hid hcut; clear hcut
   have p3 := HM2.out.p.cell 3
   simp only [List.getElem?_cons_succ, List.getElem?_cons_zero] at p3
   go_wp2_with fail
   clear p3
   go_loopw [71] (fun i wr => ∃ k : Nat, k ≤ nN ∧ i = .int .i64 k ∧ MirS K w0 w B w.heap.size rb [.string nm, .slice AE nE cE, .int .i64 gr, .slice AN nN cN, .slice AC nC cC, .slice AW nW cW, .bool mt] [.string nm', vE, .int .i64 gr', .slice CN nN kN, .slice CC nC kC, .slice CW nW kW, .bool mt'] (.slice CC nC kC) (.slice CW nW kW) (.slice CN nN kN) (mirC nE LC) (mirW nE ws) (mixS (mirNF es ns) ns k) wr) (fun i _ => nN - (intOf i).toNat)
   case atStart => exact ⟨0, Nat.zero_le _, rfl, by rw [mixS_zero]; exact HM2.out⟩
   case round =>
    obtain ⟨k, hk, rfl, hm⟩ := hrel
    have HM := Lib.hid hm; clear hm
    by_cases hlt : k < nN
    ·obtain ⟨b, off, rfl, i0, i1⟩ := (HN.out.ext HM.out.e).g (k := k) (by rw [HLN.out]; exact hlt)
     obtain ⟨a1, ha1⟩ : ∃ a1, a1 = (gS ns k).1 := ⟨_, rfl⟩
     obtain ⟨a2, ha2⟩ : ∃ a2, a2 = (gS ns k).2 := ⟨_, rfl⟩
     rw [← ha1] at i0
     rw [← ha2] at i1
     have HA1 := Lib.hid ha1; have HA2 := Lib.hid ha2; clear ha1 ha2
     by_cases hin : 0 ≤ a1 ∧ a1 < nE
     ·obtain ⟨e, he⟩ : ∃ e : Nat, a1 = e := ⟨a1.toNat, by omega⟩
      subst he
      have hen : e < nE := by omega
      have HF : Hid (mirNF es ns k = mirN es e a2) := by
       show mirNF es ns k = mirN es e a2
       unfold mirNF; rw [← HA1.out, ← HA2.out, HLE.out, if_pos hin]; rfl
      clear hin
      obtain ⟨g, hg, hl, c0, c1, f0, f1, hg1, hg2, hset⟩ := HM.out.setN HKN.out HB.out hlt
      subst hg
      clear hset hl c0 c1 f0 f1
      go_wp2_with fail
      refine wp_at fun W1 hW1 => ?_
      have hx1 : Ext wr W1 := by rw [hW1]; exact (Ext.refl _).alloc _
      have v0 : W1.cell? ⟨wr.heap.size, 0, none⟩ = some (.int .i64 (e : Int)) := by rw [hW1]; simp [go_sem]
      have v1 : W1.cell? ⟨wr.heap.size, 1, none⟩ = some (.int .i64 a2) := by rw [hW1]; simp [go_sem]
      have r3 := (HM.out.ext hx1).r.cell 3
      have p1 := (HM.out.ext hx1).p.cell 1
      simp only [List.getElem?_cons_succ, List.getElem?_cons_zero] at r3 p1
      have HM1' := Lib.hid (HM.out.ext hx1)
      clear hW1 i0 i1
      have d0 := fun z : After W1 => After.cell v0 z
      have d1 := fun z : After W1 => After.cell v1 z
      have d2 := fun z : After W1 => After.cell r3 z
      have d3 := fun z : After W1 => After.cell p1 z
      refine region_tail 10 (by kernel_rfl) (by kernel_rfl) ?_
      simp only [List.take_succ_cons, List.take_zero, List.drop_succ_cons, List.drop_zero]
      repeat (go_big_quiet_step ((go_at_call 54; exact after_call (mirrored_any AE nE cE e a2 es _ (HE.out.ext (HM1'.out.e.trans (After.ext _))) HLE.out hen hnE))))
      refine wpQuiet_nil ?_
      rintro w2 ⟨⟨_, he⟩, rfl⟩
      clear d0 d1 d2 d3 v0 v1 r3 p1
      obtain ⟨g', hg', hl, c0, c1, f0, f1, _, _, hset⟩ := (HM1'.out.ext he).setN HKN.out HB.out hlt
      injection hg' with hg'
      injection hg' with hg'
      subst hg'
      have HSET := Lib.hid hset; clear hset
      have HL := Lib.hid hl; clear hl
      go_wp2_with fail
      go_roundw
      case rel =>
       refine ⟨k + 1, by omega, by go_num, ?_⟩
       have h := HSET.out (mirN es e a2)
       rw [← HF.out, mixS_succ (by rw [HLN.out]; exact hlt), HF.out] at h
       exact h
      case measure => simp [intOf]; omega
     ·have HF : Hid (mirNF es ns k = gS ns k) := by
       show mirNF es ns k = gS ns k
       unfold mirNF; rw [← HA1.out, HLE.out, if_neg hin]
      have HX := Lib.hid (HM.out.ext ((Ext.refl wr).alloc (.cells #[.int .i64 a1, .int .i64 a2] 79)))
      by_cases hin0 : 0 ≤ a1
      ·have hin1 : ¬ a1 < nE := fun h => hin ⟨hin0, h⟩
       clear hin
       go_wp2_with fail
       go_roundw
       case rel =>
        refine ⟨k + 1, by omega, by go_num, ?_⟩
        rw [← mixS_skip HF.out]
        exact HX.out
       case measure => simp [intOf]; omega
      ·clear hin
       go_wp2_with fail
       go_roundw
       case rel =>
        refine ⟨k + 1, by omega, by go_num, ?_⟩
        rw [← mixS_skip HF.out]
        exact HX.out
       case measure => simp [intOf]; omega
    ·obtain rfl : k = nN := by omega
     go_wp2_with fail
     go_end0
     refine ⟨rfl, HM.out.c, HM.out.i, ?_, HM.out.k, HM.out.e⟩
     have h := HM.out.n
     rw [mirNs, HLN.out]
     exact h
theorem and3 (q : Int) : bits .and .i64 q 3 = q % 4 := by
 show IntKind.i64.wrap ((BitVec.ofInt 64 q &&& BitVec.ofInt 64 3).toNat : Int) = q % 4
 have h3 : (BitVec.ofInt 64 3).toNat = 2 ^ 2 - 1 := by decide
 rw [BitVec.toNat_and, h3, Nat.and_two_pow_sub_one_eq_mod, BitVec.toNat_ofInt, IntKind.wrap_i64]
 omega
theorem quarts_succ (n : Nat) (s : Spot) : quarts (n + 1) s = quart (quarts n s) := rfl
set_option maxRecDepth 100000 in
set_option maxHeartbeats 800000 in
theorem apply_f (q : Int) (s : Spot) (w : World) :
  Calls Tryz.prog 25 #[TV false q, SV s] w fun e w' => e = .returned (SV (applyT false q s)) ∧ Ext w w' := by
 obtain ⟨x, y⟩ := s
 have ha := and3 q
 obtain ⟨r, hr⟩ : ∃ r : Nat, q % 4 = r := ⟨(q % 4).toNat, by omega⟩
 have hr4 : r < 4 := by omega
 have HR : Hid ((q % 4).toNat = r) := by show (q % 4).toNat = r; omega
 rw [hr] at ha
 clear hr
 obtain ⟨s0, hs0⟩ : ∃ s0, s0 = flipS false (x, y) := ⟨_, rfl⟩
 have HS0 := Lib.hid hs0; clear hs0
 go_enter Tryz.func25, Tryz.ntmps25
 go_wp2_with fail
 clear ha
 go_loopw [14] (fun i wr => ∃ k : Nat, k ≤ r ∧ i = .int .i64 k ∧ BlkS wr (w.heap.size + 1) [quarts k s0] ∧ BlkS wr (w.heap.size + 1 + 1) [(0, 0)] ∧ Ext w wr) (fun i _ => r - (intOf i).toNat)
 case atStart =>
  refine ⟨0, Nat.zero_le _, rfl, ?_, ?_, (((Ext.refl w).alloc _).alloc _).alloc _⟩
  ·rw [HS0.out]
   have h := (BlkS.new (w.alloc (.cells #[.bool false, .int .i64 q] 31)) [quarts 0 (flipS false (x, y))]).ext ((Ext.refl _).alloc (.cells #[.int .i64 0, .int .i64 0] 49))
   simpa [scells, quarts, flipS] using h
  ·have h := BlkS.new ((w.alloc (.cells #[.bool false, .int .i64 q] 31)).alloc (.cells (scells [flipS false (x, y)]).toArray 49)) [(0, 0)]
   simpa [scells, flipS] using h
 case round =>
  obtain ⟨k, hk, rfl, hB, hZ, hx⟩ := hrel
  have c0 : wr.cell? ⟨w.heap.size + 1, 0, none⟩ = some (.int .i64 (quarts k s0).1) := by rw [hB.cell]; rfl
  have c1 : wr.cell? ⟨w.heap.size + 1, 1, none⟩ = some (.int .i64 (quarts k s0).2) := by rw [hB.cell]; rfl
  have f0 := hB.frozen 0
  have f1 := hB.frozen 1
  have z0 : wr.cell? ⟨w.heap.size + 1 + 1, 0, none⟩ = some (.int .i64 0) := by rw [hZ.cell]; rfl
  have z1 : wr.cell? ⟨w.heap.size + 1 + 1, 1, none⟩ = some (.int .i64 0) := by rw [hZ.cell]; rfl
  have g0 := hZ.frozen 0
  have g1 := hZ.frozen 1
  have HB := Lib.hid hB; have HZ := Lib.hid hZ; clear hB hZ
  by_cases hlt : k < r
  ·go_wp2_with fail
   go_roundw
   case rel =>
    refine ⟨k + 1, by omega, by go_num, ?_, ?_, ?_⟩
    ·have h := HB.out.set 0 (quart (quarts k s0))
     simpa [quarts_succ, quart] using h
    ·exact (HZ.out.other (by simp) _).other (by simp) _
    ·exact (hx.setCell (by simp) _).setCell (by simp) _
   case measure => simp [intOf]; omega
  ·go_wp2_with fail
   obtain rfl : k = r := by omega
   refine bodyPost_ret (v := SV (applyT false q (x, y))) (by
    have e : applyT false q (x, y) = quarts k s0 := by unfold applyT; rw [HR.out, HS0.out]
    rw [e]
    simp [results, Tryz.results25, go_sem, z0, z1]) rfl ⟨rfl, ?_⟩
   exact (hx.setCell (by simp; omega) _).setCell (by simp; omega) _
set_option maxRecDepth 100000 in
set_option maxHeartbeats 800000 in
theorem apply_t (q : Int) (s : Spot) (w : World) :
  Calls Tryz.prog 25 #[TV true q, SV s] w fun e w' => e = .returned (SV (applyT true q s)) ∧ Ext w w' := by
 obtain ⟨x, y⟩ := s
 have ha := and3 q
 obtain ⟨r, hr⟩ : ∃ r : Nat, q % 4 = r := ⟨(q % 4).toNat, by omega⟩
 have hr4 : r < 4 := by omega
 have HR : Hid ((q % 4).toNat = r) := by show (q % 4).toNat = r; omega
 rw [hr] at ha
 clear hr
 obtain ⟨s0, hs0⟩ : ∃ s0, s0 = flipS true (x, y) := ⟨_, rfl⟩
 have HS0 := Lib.hid hs0; clear hs0
 go_enter Tryz.func25, Tryz.ntmps25
 go_wp2_with fail
 clear ha
 go_loopw [14] (fun i wr => ∃ k : Nat, k ≤ r ∧ i = .int .i64 k ∧ BlkS wr (w.heap.size + 1) [quarts k s0] ∧ BlkS wr (w.heap.size + 1 + 1) [(0, 0)] ∧ Ext w wr) (fun i _ => r - (intOf i).toNat)
 case atStart =>
  refine ⟨0, Nat.zero_le _, rfl, ?_, ?_, (((Ext.refl w).alloc _).alloc _).alloc _⟩
  ·rw [HS0.out]
   have h := (BlkS.new (w.alloc (.cells #[.bool true, .int .i64 q] 31)) [quarts 0 (flipS true (x, y))]).ext ((Ext.refl _).alloc (.cells #[.int .i64 0, .int .i64 0] 49))
   simpa [scells, quarts, flipS] using h
  ·have h := BlkS.new ((w.alloc (.cells #[.bool true, .int .i64 q] 31)).alloc (.cells (scells [flipS true (x, y)]).toArray 49)) [(0, 0)]
   simpa [scells, flipS] using h
 case round =>
  obtain ⟨k, hk, rfl, hB, hZ, hx⟩ := hrel
  have c0 : wr.cell? ⟨w.heap.size + 1, 0, none⟩ = some (.int .i64 (quarts k s0).1) := by rw [hB.cell]; rfl
  have c1 : wr.cell? ⟨w.heap.size + 1, 1, none⟩ = some (.int .i64 (quarts k s0).2) := by rw [hB.cell]; rfl
  have f0 := hB.frozen 0
  have f1 := hB.frozen 1
  have z0 : wr.cell? ⟨w.heap.size + 1 + 1, 0, none⟩ = some (.int .i64 0) := by rw [hZ.cell]; rfl
  have z1 : wr.cell? ⟨w.heap.size + 1 + 1, 1, none⟩ = some (.int .i64 0) := by rw [hZ.cell]; rfl
  have g0 := hZ.frozen 0
  have g1 := hZ.frozen 1
  have HB := Lib.hid hB; have HZ := Lib.hid hZ; clear hB hZ
  by_cases hlt : k < r
  ·go_wp2_with fail
   go_roundw
   case rel =>
    refine ⟨k + 1, by omega, by go_num, ?_, ?_, ?_⟩
    ·have h := HB.out.set 0 (quart (quarts k s0))
     simpa [quarts_succ, quart] using h
    ·exact (HZ.out.other (by simp) _).other (by simp) _
    ·exact (hx.setCell (by simp) _).setCell (by simp) _
   case measure => simp [intOf]; omega
  ·go_wp2_with fail
   obtain rfl : k = r := by omega
   refine bodyPost_ret (v := SV (applyT true q (x, y))) (by
    have e : applyT true q (x, y) = quarts k s0 := by unfold applyT; rw [HR.out, HS0.out]
    rw [e]
    simp [results, Tryz.results25, go_sem, z0, z1]) rfl ⟨rfl, ?_⟩
   exact (hx.setCell (by simp; omega) _).setCell (by simp; omega) _
theorem apply_any (f : Bool) (q : Int) (s : Spot) (w : World) :
  Calls Tryz.prog 25 #[TV f q, SV s] w fun e w' => e = .returned (SV (applyT f q s)) ∧ Ext w w' := by
 cases f
 ·exact apply_f q s w
 ·exact apply_t q s w
def RetE (w : World) (es : List Edge) (e : Ending) (w' : World) : Prop := ∃ v, e = .returned v ∧ OwnE w' w.heap.size v es ∧ Ext w w'
set_option maxRecDepth 100000 in
set_option maxHeartbeats 3200000 in
theorem oturned_false (A : Option Addr) (n c : Nat) (q : Int) (l : List Edge) (w : World) (ha : EdgesAt w A l) (hl : l.length = n) (hn : n ≤ 1000) (hlen : ∀ k, k < n → (gE l k).2.length ≤ 1000) :
  Calls Tryz.prog 24 #[.slice A n c, TV false q] w (RetE w (turnE false q l)) := by
 have HL := Lib.hid hl; clear hl
 have HA := Lib.hid ha; clear ha
 have HN := Lib.hid hlen; clear hlen
 obtain ⟨i0, hi0, hz0, hz1, hz2⟩ := info_parts spot_info
 obtain ⟨e0, he0', hy0, hy1, hy2⟩ := info_parts edge_info
 go_enter Tryz.func24, Tryz.ntmps24
 go_wp2_with fail
 refine wp_at fun W0 hW0 => ?_
 have hx0 : Ext w W0 := by rw [hW0]; exact (Ext.refl _).alloc _
 have t0 : W0.cell? ⟨w.heap.size, 0, none⟩ = some (.bool false) := by rw [hW0]; simp [go_sem]
 have t1 : W0.cell? ⟨w.heap.size, 1, none⟩ = some (.int .i64 q) := by rw [hW0]; simp [go_sem]
 obtain ⟨tb, htb⟩ : ∃ tb, tb = w.heap.size := ⟨_, rfl⟩
 rw [← htb] at t0 t1
 rw [← htb]
 have htl : tb < W0.heap.size := cell_lt t0
 have HTB := Lib.hid htb; clear htb hW0
 go_loopw [5, 13] (fun v i wr => ∃ k : Nat, k ≤ n ∧ i = .int .i64 k ∧ OwnE wr (tb + 1) v ((turnE false q l).take k) ∧ wr.cell? ⟨tb, 0, none⟩ = some (.bool false) ∧ wr.cell? ⟨tb, 1, none⟩ = some (.int .i64 q) ∧ Ext w wr) (fun _ i _ => n - (intOf i).toNat)
 case atStart => exact ⟨0, Nat.zero_le _, rfl, OwnE.nil _ _, t0, t1, hx0⟩
 case round =>
  clear t0 t1 hx0 htl
  obtain ⟨k, hk, rfl, ho, t0, t1, hx⟩ := hrel
  have HO := Lib.hid ho; clear ho
  have htl : tb < wr.heap.size := cell_lt t0
  by_cases hlt : k < n
  ·have hkl : k < l.length := by rw [HL.out]; exact hlt
   obtain ⟨b, off, L, cL, rfl, hc0, hc1, hs, hcl, hcm⟩ := (HA.out.ext hx).g (k := k) (by rw [HL.out]; exact hlt)
   have hll := HN.out (k) (by omega)
   have HS := Lib.hid hs; clear hs
   obtain ⟨ln, hln⟩ : ∃ ln, ln = (gE l (k)).2 := ⟨_, rfl⟩
   rw [← hln] at hc1 HS hll hcl
   have HLN := Lib.hid hln; clear hln
   have hbl : b < wr.heap.size := cell_lt hc0
   go_wp2_with fail
   refine wp_at fun W1 hW1 => ?_
   have hx1 : Ext wr W1 := by rw [hW1]; exact (Ext.refl _).alloc _
   have b0 : W1.cell? ⟨wr.heap.size, 0, none⟩ = some (.string (gE l (k)).1) := by rw [hW1]; simp [go_sem]
   have t0' := hx1.cell t0
   have t1' := hx1.cell t1
   have hx1w : tb + 1 ≤ W1.heap.size := Nat.le_trans htl hx1.size
   clear hW1 hc0 hc1 hbl
   obtain ⟨bx, hbx⟩ : ∃ bx, bx = wr.heap.size := ⟨_, rfl⟩
   rw [← hbx] at b0
   rw [← hbx]
   clear hbx
   obtain ⟨EL, hEL⟩ : ∃ EL, EL = (turnE false q l).take k := ⟨_, rfl⟩
   have hoE := HO.out
   rw [← hEL] at hoE
   obtain ⟨ps, hps, hor⟩ := hoE
   have HPS := Lib.hid hps; have HOR := Lib.hid hor; clear hps hor
   have hELl : EL.length ≤ 1000 := by rw [hEL, List.length_take]; omega
   have HEL := Lib.hid hEL; clear hEL
   go_loopw [8, 35] (fun v i wq => ∃ j : Nat, j ≤ ln.length ∧ i = .int .i64 j ∧ OwnS wq W1.heap.size v ((ln.take j).map (applyT false q)) ∧ Ext W1 wq) (fun _ i _ => ln.length - (intOf i).toNat)
   case atStart => exact ⟨0, Nat.zero_le _, rfl, OwnS.nil _ _, Ext.refl _⟩
   case round =>
    obtain ⟨wq, rfl⟩ : ∃ wq : World, wq = wr := ⟨_, rfl⟩
    obtain ⟨j, hj, rfl, ho2, hy⟩ := hrel
    obtain ⟨LK, hLK⟩ : ∃ LK, LK = (ln.take j).map (applyT false q) := ⟨_, rfl⟩
    rw [← hLK] at ho2
    have hLKl : LK.length ≤ 1000 := by rw [hLK, List.length_map, List.length_take]; omega
    have HLKE := Lib.hid hLK; clear hLK
    have HO2 := Lib.hid ho2; clear ho2
    have r0 := hy.cell t0'
    have r1 := hy.cell t1'
    have hsq : W1.heap.size ≤ wq.heap.size := hy.size
    by_cases hjl : j < ln.length
    ·obtain ⟨bs, os, rfl, s0, s1⟩ := ((HS.out.ext hx1).ext hy).g hjl
     have htq : tb < wq.heap.size := cell_lt r0
     go_wp2_with fail
     refine (apply_any false q (gS ln j) _).mono ?_
     rintro e w2 ⟨rfl, he2⟩
     have hx2 : Ext wq w2 := ((Ext.refl _).alloc _).trans he2
     clear he2 s0 s1
     go_wp2_with (at_builtin; refine wpList_append_own _ rfl (.tmp 39) (.tmp 43) 38 rfl W1.heap.size 49 i0 (.agg #[.int .i64 0, .int .i64 0]) 2 16 Tryz.underlying38 hi0 hz0 hz1 hz2 rfl (by decide) u8 LK.length (scells LK) rfl (World.ownsRow.alloc (own_ext HO2.out hx2) _) ⟨w2.heap.size, 0, none⟩ 1 1 [.int .i64 (applyT false q (gS ln j)).1, .int .i64 (applyT false q (gS ln j)).2] rfl ?c1 ?c2 ?c3 ?c4 ?c5 ?c6 ?_)
     case c1 => rfl
     case c2 => exact World.news_of_block (cs := #[.int .i64 (applyT false q (gS ln j)).1, .int .i64 (applyT false q (gS ln j)).2]) (t := 49) (fr := (0, 0)) (heap_alloc_new w2 _)
     case c3 => simp [Value.oneCell']
     case c4 => unfold maxLen; omega
     case c5 => omega
     case c6 => have := hx2.size; simp; omega
     intro v' w4 hown' hgrow _
     have hO' : OwnS w4 W1.heap.size v' ((ln.take (j + 1)).map (applyT false q)) := by
      rw [map_take_succ hjl, ← HLKE.out]
      unfold OwnS
      rw [scells_append, List.length_append]
      exact hown'
     have hx' : Ext W1 w4 := ((hy.trans hx2).alloc _).grown hgrow (fun g hg => (World.ownsRow.lt HO2.out g hg).1)
     have HO' := Lib.hid hO'; clear hO' hown' hgrow
     go_wp2_with fail
     go_roundw
     case rel => exact ⟨j + 1, by omega, by go_num, HO'.out, hx'⟩
     case measure => simp [intOf]; omega
    ·clear r1
     have hj' : ln.length ≤ j := by omega
     have hO3 : OwnS wq W1.heap.size u8 (turnL false q ln) := by
      have h := HO2.out
      rw [HLKE.out, List.take_of_length_le (by omega)] at h
      unfold turnL; rw [if_neg (by decide)]; exact h
     have HO3 := Lib.hid hO3
     obtain ⟨AL, capL, rfl, _, _, _⟩ := hO3.slice
     clear hO3 HO2
     have hxz : Ext W1 wq := hy
     have y0 := hxz.cell b0
     go_wp2_with (at_builtin; refine wpList_append_own _ rfl (.tmp 50) (.tmp 55) 36 rfl (tb + 1) 59 e0 (.agg #[.string ⟨#[]⟩, .slice none 0 0]) 2 40 Tryz.underlying36 he0' hy0 hy1 hy2 rfl (by decide) u5 EL.length (ecells ps) rfl (World.ownsRow.alloc (own_ext HOR.out (hx1.trans hxz)) _) ⟨wq.heap.size, 0, none⟩ 1 1 [.string (gE l (k)).1, .slice AL (turnL false q ln).length capL] rfl ?c1 ?c2 ?c3 ?c4 ?c5 ?c6 ?_)
     case c1 => rfl
     case c2 => exact World.news_of_block (cs := #[.string (gE l (k)).1, .slice AL (turnL false q ln).length capL]) (t := 59) (fr := (0, 0)) (heap_alloc_new wq _)
     case c3 => simp [Value.oneCell']
     case c4 => unfold maxLen; omega
     case c5 => omega
     case c6 => have := hxz.size; simp; omega
     intro v' w4 hown' hgrow _
     have hch := (hx1.trans hxz).alloc (.cells #[.string (gE l (k)).1, .slice AL (turnL false q ln).length capL] 59)
     have hor1 := own_ext HOR.out hch
     have hO' : OwnE w4 (tb + 1) v' ((turnE false q l).take (k + 1)) := by
      rw [turnE_take hkl, ← HEL.out]
      have e : turnAt false q l k = ((gE l (k)).1, turnL false q ln) := by unfold turnAt turnI; rw [HLN.out, HL.out]; simp
      rw [e]
      refine ⟨ps ++ [((gE l (k)).1, .slice AL (turnL false q ln).length capL)], ((HPS.out.ext hch).grown hor1 (by decide) hgrow).snoc ⟨rfl, ?_⟩, ?_⟩
      ·exact ((HO3.out.ext ((Ext.refl _).alloc _)).grown hor1 (by decide) hgrow).base_le hx1w
      ·rw [ecells_append, List.length_append]; exact hown'
     have hx' : Ext w w4 := (hx.trans hch).grown hgrow (fun g hg => by have h1 := (World.ownsRow.lt HOR.out g hg).1; have h2 := HTB.out; omega)
     have hne : ∀ j, (w4.cell? ⟨tb, j, none⟩) = W1.cell? ⟨tb, j, none⟩ := fun j => by
      have hl1 : tb < W1.heap.size := hx1w
      have hl2 : tb < wq.heap.size := Nat.lt_of_lt_of_le hl1 hxz.size
      have h1 := World.cell?_of_block (w := wq.alloc _) (a := ⟨tb, j, none⟩) (hgrow.block tb (by simp; omega) (fun e => by have := (World.ownsRow.lt HOR.out _ e.symm).1; omega))
      rw [h1, World.cell?_alloc_lt _ _ _ hl2]
      exact hxz.cellq hl1
     have z0 : w4.cell? ⟨tb, 0, none⟩ = some (.bool false) := (hne 0).trans t0'
     have z1 : w4.cell? ⟨tb, 1, none⟩ = some (.int .i64 q) := (hne 1).trans t1'
     have HO' := Lib.hid hO'; clear hO' hown' hgrow hne
     go_wp2_with fail
     go_roundw
     case rel => exact ⟨k + 1, by omega, by go_num, HO'.out, z0, z1, hx'⟩
     case measure => simp [intOf]; omega
  ·go_wp2_with fail
   go_ret
   refine ⟨_, rfl, ?_, hx⟩
   have h := HO.out
   rw [List.take_of_length_le (by rw [turnE_len, HL.out]; omega)] at h
   exact h.base_le (by have := HTB.out; omega)
set_option maxRecDepth 100000 in
set_option maxHeartbeats 3200000 in
theorem oturned_true (A : Option Addr) (n c : Nat) (q : Int) (l : List Edge) (w : World) (ha : EdgesAt w A l) (hl : l.length = n) (hn : n ≤ 1000) (hlen : ∀ k, k < n → (gE l k).2.length ≤ 1000) :
  Calls Tryz.prog 24 #[.slice A n c, TV true q] w (RetE w (turnE true q l)) := by
 have HL := Lib.hid hl; clear hl
 have HA := Lib.hid ha; clear ha
 have HN := Lib.hid hlen; clear hlen
 obtain ⟨i0, hi0, hz0, hz1, hz2⟩ := info_parts spot_info
 obtain ⟨e0, he0', hy0, hy1, hy2⟩ := info_parts edge_info
 go_enter Tryz.func24, Tryz.ntmps24
 go_wp2_with fail
 refine wp_at fun W0 hW0 => ?_
 have hx0 : Ext w W0 := by rw [hW0]; exact (Ext.refl _).alloc _
 have t0 : W0.cell? ⟨w.heap.size, 0, none⟩ = some (.bool true) := by rw [hW0]; simp [go_sem]
 have t1 : W0.cell? ⟨w.heap.size, 1, none⟩ = some (.int .i64 q) := by rw [hW0]; simp [go_sem]
 obtain ⟨tb, htb⟩ : ∃ tb, tb = w.heap.size := ⟨_, rfl⟩
 rw [← htb] at t0 t1
 rw [← htb]
 have htl : tb < W0.heap.size := cell_lt t0
 have HTB := Lib.hid htb; clear htb hW0
 go_loopw [5, 13] (fun v i wr => ∃ k : Nat, k ≤ n ∧ i = .int .i64 k ∧ OwnE wr (tb + 1) v ((turnE true q l).take k) ∧ wr.cell? ⟨tb, 0, none⟩ = some (.bool true) ∧ wr.cell? ⟨tb, 1, none⟩ = some (.int .i64 q) ∧ Ext w wr) (fun _ i _ => n - (intOf i).toNat)
 case atStart => exact ⟨0, Nat.zero_le _, rfl, OwnE.nil _ _, t0, t1, hx0⟩
 case round =>
  clear t0 t1 hx0 htl
  obtain ⟨k, hk, rfl, ho, t0, t1, hx⟩ := hrel
  have HO := Lib.hid ho; clear ho
  have htl : tb < wr.heap.size := cell_lt t0
  by_cases hlt : k < n
  ·have hkl : k < l.length := by rw [HL.out]; exact hlt
   have hmod : (n - k) % n < n := Nat.mod_lt _ (by omega)
   obtain ⟨q0, q1, q2⟩ : 0 ≤ (-(k : Int)) % n ∧ (-(k : Int)) % n < n ∧ ((-(k : Int)) % n).toNat = (n - k) % n := by
    have e : (-(k : Int)) % n = (((n - k) % n : Nat) : Int) := by
     have e1 : (((n - k) % n : Nat) : Int) = ((n : Int) - k) % n := by
      rw [show ((n : Int) - k) = ((n - k : Nat) : Int) from by omega]; simp
     rw [e1]; simp
    omega
   have hnz : ((n : Int) == 0) = false := by simp; omega
   have hnk : 0 ≤ (n : Int) - k := by omega
   obtain ⟨b, off, L1, cL1, rfl, hc0', hc1', _, _, _⟩ := (HA.out.ext hx).g (k := k) (by rw [HL.out]; exact hlt)
   obtain ⟨L, cL, hc0, hc1, hs, hcl, hcm⟩ := (HA.out.ext hx).at1 (k := (n - k) % n) (by rw [HL.out]; exact hmod)
   have hll := HN.out ((n - k) % n) (by omega)
   have HS := Lib.hid hs; clear hs
   obtain ⟨ln, hln⟩ : ∃ ln, ln = (gE l ((n - k) % n)).2 := ⟨_, rfl⟩
   rw [← hln] at hc1 HS hll hcl
   have HLN := Lib.hid hln; clear hln
   have hbl : b < wr.heap.size := cell_lt hc0
   go_wp2_with fail
   refine wp_at fun W1 hW1 => ?_
   have hx1 : Ext wr W1 := by rw [hW1]; exact (Ext.refl _).alloc _
   have b0 : W1.cell? ⟨wr.heap.size, 0, none⟩ = some (.string (gE l ((n - k) % n)).1) := by rw [hW1]; simp [go_sem]
   have t0' := hx1.cell t0
   have t1' := hx1.cell t1
   have hx1w : tb + 1 ≤ W1.heap.size := Nat.le_trans htl hx1.size
   clear hW1 hc0 hc1 hbl
   obtain ⟨bx, hbx⟩ : ∃ bx, bx = wr.heap.size := ⟨_, rfl⟩
   rw [← hbx] at b0
   rw [← hbx]
   clear hbx
   obtain ⟨EL, hEL⟩ : ∃ EL, EL = (turnE true q l).take k := ⟨_, rfl⟩
   have hoE := HO.out
   rw [← hEL] at hoE
   obtain ⟨ps, hps, hor⟩ := hoE
   have HPS := Lib.hid hps; have HOR := Lib.hid hor; clear hps hor
   have hELl : EL.length ≤ 1000 := by rw [hEL, List.length_take]; omega
   have HEL := Lib.hid hEL; clear hEL
   obtain ⟨zz, hzz⟩ : ∃ zz, zz = ((n : Int) - k) % n := ⟨_, rfl⟩
   rw [← hzz]
   clear hzz
   go_loopw [8, 35] (fun v i wq => ∃ j : Nat, j ≤ ln.length ∧ i = .int .i64 j ∧ OwnS wq W1.heap.size v ((ln.take j).map (applyT true q)) ∧ Ext W1 wq) (fun _ i _ => ln.length - (intOf i).toNat)
   case atStart => exact ⟨0, Nat.zero_le _, rfl, OwnS.nil _ _, Ext.refl _⟩
   case round =>
    obtain ⟨wq, rfl⟩ : ∃ wq : World, wq = wr := ⟨_, rfl⟩
    obtain ⟨j, hj, rfl, ho2, hy⟩ := hrel
    obtain ⟨LK, hLK⟩ : ∃ LK, LK = (ln.take j).map (applyT true q) := ⟨_, rfl⟩
    rw [← hLK] at ho2
    have hLKl : LK.length ≤ 1000 := by rw [hLK, List.length_map, List.length_take]; omega
    have HLKE := Lib.hid hLK; clear hLK
    have HO2 := Lib.hid ho2; clear ho2
    have r0 := hy.cell t0'
    have r1 := hy.cell t1'
    have hsq : W1.heap.size ≤ wq.heap.size := hy.size
    by_cases hjl : j < ln.length
    ·obtain ⟨bs, os, rfl, s0, s1⟩ := ((HS.out.ext hx1).ext hy).g hjl
     have htq : tb < wq.heap.size := cell_lt r0
     go_wp2_with fail
     refine (apply_any true q (gS ln j) _).mono ?_
     rintro e w2 ⟨rfl, he2⟩
     have hx2 : Ext wq w2 := ((Ext.refl _).alloc _).trans he2
     clear he2 s0 s1
     go_wp2_with (at_builtin; refine wpList_append_own _ rfl (.tmp 39) (.tmp 43) 38 rfl W1.heap.size 49 i0 (.agg #[.int .i64 0, .int .i64 0]) 2 16 Tryz.underlying38 hi0 hz0 hz1 hz2 rfl (by decide) u8 LK.length (scells LK) rfl (World.ownsRow.alloc (own_ext HO2.out hx2) _) ⟨w2.heap.size, 0, none⟩ 1 1 [.int .i64 (applyT true q (gS ln j)).1, .int .i64 (applyT true q (gS ln j)).2] rfl ?c1 ?c2 ?c3 ?c4 ?c5 ?c6 ?_)
     case c1 => rfl
     case c2 => exact World.news_of_block (cs := #[.int .i64 (applyT true q (gS ln j)).1, .int .i64 (applyT true q (gS ln j)).2]) (t := 49) (fr := (0, 0)) (heap_alloc_new w2 _)
     case c3 => simp [Value.oneCell']
     case c4 => unfold maxLen; omega
     case c5 => omega
     case c6 => have := hx2.size; simp; omega
     intro v' w4 hown' hgrow _
     have hO' : OwnS w4 W1.heap.size v' ((ln.take (j + 1)).map (applyT true q)) := by
      rw [map_take_succ hjl, ← HLKE.out]
      unfold OwnS
      rw [scells_append, List.length_append]
      exact hown'
     have hx' : Ext W1 w4 := ((hy.trans hx2).alloc _).grown hgrow (fun g hg => (World.ownsRow.lt HO2.out g hg).1)
     have HO' := Lib.hid hO'; clear hO' hown' hgrow
     go_wp2_with fail
     go_roundw
     case rel => exact ⟨j + 1, by omega, by go_num, HO'.out, hx'⟩
     case measure => simp [intOf]; omega
    ·clear r1
     have hj' : ln.length ≤ j := by omega
     have hO3 : OwnS wq W1.heap.size u8 (ln.map (applyT true q)) := by
      have h := HO2.out
      rw [HLKE.out, List.take_of_length_le (by omega)] at h
      exact h
     clear HO2
     go_wp2_with fail
     have y00 := hy.cell b0
     refine (reverse_own W1.heap.size u8 _ wq hO3 (by rw [List.length_map]; omega)).mono ?_
     rintro e wz ⟨rfl, hO4, hxf⟩
     have hxz : Ext W1 wz := hxf W1 (Nat.le_refl _) hy
     have hO5 : OwnS wz W1.heap.size u8 (turnL true q ln) := by unfold turnL; rw [if_pos rfl]; exact hO4
     have HO3 := Lib.hid hO5
     obtain ⟨AL, capL, rfl, _, _, _⟩ := hO5.slice
     clear hO5 hO4 hO3 y00 hxf
     have y0 := hxz.cell b0
     go_wp2_with (at_builtin; refine wpList_append_own _ rfl (.tmp 50) (.tmp 55) 36 rfl (tb + 1) 59 e0 (.agg #[.string ⟨#[]⟩, .slice none 0 0]) 2 40 Tryz.underlying36 he0' hy0 hy1 hy2 rfl (by decide) u5 EL.length (ecells ps) rfl (World.ownsRow.alloc (own_ext HOR.out (hx1.trans hxz)) _) ⟨wz.heap.size, 0, none⟩ 1 1 [.string (gE l ((n - k) % n)).1, .slice AL (turnL true q ln).length capL] rfl ?c1 ?c2 ?c3 ?c4 ?c5 ?c6 ?_)
     case c1 => rfl
     case c2 => exact World.news_of_block (cs := #[.string (gE l ((n - k) % n)).1, .slice AL (turnL true q ln).length capL]) (t := 59) (fr := (0, 0)) (heap_alloc_new wz _)
     case c3 => simp [Value.oneCell']
     case c4 => unfold maxLen; omega
     case c5 => omega
     case c6 => have := hxz.size; simp; omega
     intro v' w4 hown' hgrow _
     have hch := (hx1.trans hxz).alloc (.cells #[.string (gE l ((n - k) % n)).1, .slice AL (turnL true q ln).length capL] 59)
     have hor1 := own_ext HOR.out hch
     have hO' : OwnE w4 (tb + 1) v' ((turnE true q l).take (k + 1)) := by
      rw [turnE_take hkl, ← HEL.out]
      have e : turnAt true q l k = ((gE l ((n - k) % n)).1, turnL true q ln) := by unfold turnAt turnI; rw [HLN.out, HL.out]; simp
      rw [e]
      refine ⟨ps ++ [((gE l ((n - k) % n)).1, .slice AL (turnL true q ln).length capL)], ((HPS.out.ext hch).grown hor1 (by decide) hgrow).snoc ⟨rfl, ?_⟩, ?_⟩
      ·exact ((HO3.out.ext ((Ext.refl _).alloc _)).grown hor1 (by decide) hgrow).base_le hx1w
      ·rw [ecells_append, List.length_append]; exact hown'
     have hx' : Ext w w4 := (hx.trans hch).grown hgrow (fun g hg => by have h1 := (World.ownsRow.lt HOR.out g hg).1; have h2 := HTB.out; omega)
     have hne : ∀ j, (w4.cell? ⟨tb, j, none⟩) = W1.cell? ⟨tb, j, none⟩ := fun j => by
      have hl1 : tb < W1.heap.size := hx1w
      have hl2 : tb < wz.heap.size := Nat.lt_of_lt_of_le hl1 hxz.size
      have h1 := World.cell?_of_block (w := wz.alloc _) (a := ⟨tb, j, none⟩) (hgrow.block tb (by simp; omega) (fun e => by have := (World.ownsRow.lt HOR.out _ e.symm).1; omega))
      rw [h1, World.cell?_alloc_lt _ _ _ hl2]
      exact hxz.cellq hl1
     have z0 : w4.cell? ⟨tb, 0, none⟩ = some (.bool true) := (hne 0).trans t0'
     have z1 : w4.cell? ⟨tb, 1, none⟩ = some (.int .i64 q) := (hne 1).trans t1'
     have HO' := Lib.hid hO'; clear hO' hown' hgrow hne
     go_wp2_with fail
     go_roundw
     case rel => exact ⟨k + 1, by omega, by go_num, HO'.out, z0, z1, hx'⟩
     case measure => simp [intOf]; omega
  ·go_wp2_with fail
   go_ret
   refine ⟨_, rfl, ?_, hx⟩
   have h := HO.out
   rw [List.take_of_length_le (by rw [turnE_len, HL.out]; omega)] at h
   exact h.base_le (by have := HTB.out; omega)
theorem oturned_any (A : Option Addr) (n c : Nat) (f : Bool) (q : Int) (l : List Edge) (w : World) (ha : EdgesAt w A l) (hl : l.length = n) (hn : n ≤ 1000) (hlen : ∀ k, k < n → (gE l k).2.length ≤ 1000) :
  Calls Tryz.prog 24 #[.slice A n c, TV f q] w (RetE w (turnE f q l)) := by
 cases f
 ·exact oturned_false A n c q l w ha hl hn hlen
 ·exact oturned_true A n c q l w ha hl hn hlen
def turnC (f : Bool) (q : Int) (n : Nat) (cs : List Spot) : List Spot := if f = true then mirC n (cs.map (applyT f q)) else cs.map (applyT f q)
def turnW (f : Bool) (n : Nat) (ws : List Int) : List Int := if f = true then mirW n ws else ws
def turnNs (f : Bool) (es : List Edge) (ns : List Spot) : List Spot := if f = true then mirNs es ns else ns
def RetT (w : World) (nm : ByteArray) (gr : Int) (mt : Bool) (E : List Edge) (C : List Spot) (I : List Int) (N : List Spot) (e : Ending) (w' : World) : Prop :=
 ∃ vE vC vW vN, e = .returned (.agg #[.string nm, vE, .int .i64 gr, vN, vC, vW, .bool mt]) ∧ OwnE w' w.heap.size vE E ∧ OwnT 49 w' w.heap.size vC C ∧ OwnI w' w.heap.size vW I ∧ OwnT 79 w' w.heap.size vN N ∧ Ext w w'
theorem mixS_map {f : Spot → Spot} {cs : List Spot} {L : List Spot} (h : L.length = cs.length) : mixS (fun p => f (gS cs p)) L cs.length = cs.map f :=
 list_ext_gS (by rw [mixS_len, List.length_map, h]) fun p hp => by
  rw [mixS_len, h] at hp
  rw [mixS_get (by omega), if_pos hp, gS_eq (l := cs.map f) (by simpa using hp), gS_eq hp]; simp
theorem pair_cells0 {t : TypeId} {w : World} {g : Nat} {L : List Spot} (h : Blk t w g (scells L)) {k : Nat} (hk : k < L.length) :
  w.cell? ⟨g, k * 2, none⟩ = some (.int .i64 (gS L k).1) ∧ w.cell? ⟨g, k * 2 + 1, none⟩ = some (.int .i64 (gS L k).2) ∧ w.frozen? ⟨g, k * 2, none⟩ = false ∧ w.frozen? ⟨g, k * 2 + 1, none⟩ = false := pair_cells (R := []) (by simpa using h) hk
theorem pair_set0 {t : TypeId} {w : World} {g : Nat} {L : List Spot} (h : Blk t w g (scells L)) {k : Nat} (hk : k < L.length) (s : Spot) :
  Blk t ((w.setCell ⟨g, k * 2, none⟩ (.int .i64 s.1)).setCell ⟨g, k * 2 + 1, none⟩ (.int .i64 s.2)) g (scells (L.set k s)) := by
 have := pair_set (R := []) (by simpa using h) hk s
 simpa using this
def turK (w1 : World) (rb k : Nat) : Prop := k = rb ∨ w1.heap.size ≤ k
theorem retT_of {w W8 W9 : World} {sb : Nat} {sc : List Value} {nm : ByteArray} {gr : Int} {mt : Bool} {E : List Edge} {C : List Spot} {I : List Int} {N : List Spot} {vE vC vW vN : Value} (hk : Kept (fun k => k = sb) W8 W9) (hS : Blk 40 W8 sb sc)
  (hE : OwnE W8 w.heap.size vE E) (hC : OwnT 49 W8 w.heap.size vC C) (hI : OwnI W8 w.heap.size vW I) (hN : OwnT 79 W8 w.heap.size vN N) (hx : Ext w W8) (hsb : w.heap.size ≤ sb) :
  RetT w nm gr mt E C I N (.returned (.agg #[.string nm, vE, .int .i64 gr, vN, vC, vW, .bool mt])) W9 := by
 refine ⟨vE, vC, vW, vN, rfl, hE.kept hk (fun b _ h => ?_), own_kept hC hk (fun b hb h => ?_), own_kept hI hk (fun b hb h => ?_), own_kept hN hk (fun b hb h => ?_), hk.ext hx (fun b h => ?_)⟩
 ·subst h; exact ⟨_, _, hS, by decide, by decide⟩
 ·subst h; exact own_blk_ne hC hS (by decide) hb
 ·subst h; exact own_blk_ne hI hS (by decide) hb
 ·subst h; exact own_blk_ne hN hS (by decide) hb
 ·subst h; exact hsb
set_option maxRecDepth 100000 in
set_option maxHeartbeats 3200000 in
theorem turned_any0 (nm : ByteArray) (AE AN AC AW : Option Addr) (nE cE nN cN nC cC nW cW : Nat) (gr : Int) (mt f : Bool) (q : Int) (es : List Edge) (cs : List Spot) (ws : List Int) (ns : List Spot) (w : World)
  (hE : EdgesAt w AE es) (hlE : es.length = nE) (hnE : nE ≤ 1000) (hlen : ∀ k, k < nE → (gE es k).2.length ≤ 1000) (hC : SpotsAt w AC cs) (hlC : cs.length = nC) (hnC : nC ≤ 1000)
  (hW : IntsAt w AW ws) (hlW : ws.length = nW) (hnW : nW ≤ 1000) (hN : SpotsAt w AN ns) (hlN : ns.length = nN) (hnN : nN ≤ 1000) :
  Calls Tryz.prog 8 #[.agg #[.string nm, .slice AE nE cE, .int .i64 gr, .slice AN nN cN, .slice AC nC cC, .slice AW nW cW, .bool mt], TV f q] w (RetT w nm gr mt (turnE f q es) (turnC f q nE cs) (turnW f nE ws) (turnNs f es ns)) := by
 have HLE := Lib.hid hlE; clear hlE
 have HLC := Lib.hid hlC; clear hlC
 have HLW := Lib.hid hlW; clear hlW
 have HLN := Lib.hid hlN; clear hlN
 have HE := Lib.hid hE; clear hE
 have HC := Lib.hid hC; clear hC
 have HW := Lib.hid hW; clear hW
 have HN := Lib.hid hN; clear hN
 have HLEN := Lib.hid hlen; clear hlen
 have hmk : ∀ W : World, (Instr.makeSlice 38 (.int .i64 (nC : Int)) (.int .i64 (nC : Int))).run Tryz.prog W = .ok (.slice (some ⟨W.heap.size, 0, none⟩) nC nC) (W.alloc (.cells (scells (List.replicate nC (0, 0))).toArray 49)) := fun W => by
  have h := make_spots nC (by omega) W
  rw [made_two] at h
  simpa using h
 obtain ⟨Z, hZ⟩ : ∃ Z, Z = (scells (List.replicate nC (0, 0))).toArray := ⟨_, rfl⟩
 rw [← hZ] at hmk
 have HZ := Lib.hid hZ; clear hZ
 go_enter Tryz.func8, Tryz.ntmps8
 go_wp2_with fail
 refine (oturned_any AE nE cE f q es _ (HE.out.ext (((((Ext.refl _).alloc _).alloc _).alloc _).alloc _)) HLE.out hnE HLEN.out).mono ?_
 rintro e w1 ⟨vE, rfl, hoE, he1⟩
 have hP : Blk 40 w1 w.heap.size [.string nm, .slice AE nE cE, .int .i64 gr, .slice AN nN cN, .slice AC nC cC, .slice AW nW cW, .bool mt] := ((((Blk.new' rfl).ext ((Ext.refl _).alloc _)).ext ((Ext.refl _).alloc _)).ext ((Ext.refl _).alloc _)).ext he1
 have hT : Blk 31 w1 (w.heap.size + 1) [.bool f, .int .i64 q] := (((Blk.new' (by simp)).ext ((Ext.refl _).alloc _)).ext ((Ext.refl _).alloc _)).ext he1
 have hS : Blk 40 w1 (w.heap.size + 1 + 1) [.string ⟨#[]⟩, .slice none 0 0, .int .i64 0, .slice none 0 0, .slice none 0 0, .slice none 0 0, .bool false] := ((Blk.new' (by simp)).ext ((Ext.refl _).alloc _)).ext he1
 have hR : Blk 40 w1 (w.heap.size + 1 + 1 + 1) [.string nm, .slice AE nE cE, .int .i64 gr, .slice AN nN cN, .slice AC nC cC, .slice AW nW cW, .bool mt] := (Blk.new' (by simp)).ext he1
 have hx1 : Ext w w1 := (((((Ext.refl _).alloc _).alloc _).alloc _).alloc _).trans he1
 have hE1 : OwnE w1 w.heap.size vE (turnE f q es) := hoE.base_le (by simp; omega)
 clear he1 hoE
 obtain ⟨EE, cEE, hvE, _, _, _⟩ := hE1.slice
 subst hvE
 rw [turnE_len, HLE.out] at hE1 ⊢
 have HE1 := Lib.hid hE1; clear hE1
 have p4 := hP.cell 4
 have r1 := hR.cell 1
 have fr1 := hR.frozen 1
 have r4 := hR.cell 4
 have fr4 := hR.frozen 4
 simp only [List.getElem?_cons_succ, List.getElem?_cons_zero] at p4 r1 r4
 have hb3 : w.heap.size + 1 + 1 + 1 < w1.heap.size := hR.lt
 have hb0 : w.heap.size < w1.heap.size := hP.lt
 have HP := Lib.hid hP; have HT := Lib.hid hT; have HS := Lib.hid hS; have HR := Lib.hid hR; have HX1 := Lib.hid hx1
 clear hP hT hS hR hx1
 go_wp2_with fail
 refine wp_at fun W2 hW2 => ?_
 have hk2 : Kept (turK w1 (w.heap.size + 1 + 1 + 1)) w1 W2 := by
  rw [hW2]
  exact (((Kept.refl _ _).set (.inr (.inl rfl)) _).set (.inr (.inl rfl)) _).alloc _
 have hr2 : Blk 40 W2 (w.heap.size + 1 + 1 + 1) [.string nm, .slice EE nE cEE, .int .i64 gr, .slice AN nN cN, .slice (some ⟨w1.heap.size, 0, none⟩) nC nC, .slice AW nW cW, .bool mt] := by
  rw [hW2]
  have h := ((HR.out.set 1 (.slice EE nE cEE)).set 4 (.slice (some ⟨w1.heap.size, 0, none⟩) nC nC)).ext ((Ext.refl _).alloc (.cells Z 49))
  simpa using h
 have hg2 : Blk 49 W2 w1.heap.size (scells (List.replicate nC (0, 0))) := by
  rw [hW2, HZ.out]
  exact Blk.new' (by simp [World.setCell])
 clear hW2 p4 r1 fr1 r4 fr4 hmk
 obtain ⟨ZL, hZL⟩ : ∃ ZL, ZL = List.replicate nC ((0, 0) : Spot) := ⟨_, rfl⟩
 rw [← hZL] at hg2
 have hZll : ZL.length = cs.length := by rw [hZL, List.length_replicate, HLC.out]
 have HZL := Lib.hid hZll; clear hZL hZll
 have HEXT : Hid (∀ wr, Kept (turK w1 (w.heap.size + 1 + 1 + 1)) w1 wr → Ext w wr) := fun wr h => h.ext HX1.out (fun k hk => by rcases hk with hk | hk <;> omega)
 have hpK : ¬ turK w1 (w.heap.size + 1 + 1 + 1) w.heap.size := by rintro (h | h) <;> omega
 have htK : ¬ turK w1 (w.heap.size + 1 + 1 + 1) (w.heap.size + 1) := by rintro (h | h) <;> omega
 have hsK : ¬ turK w1 (w.heap.size + 1 + 1 + 1) (w.heap.size + 1 + 1) := by rintro (h | h) <;> omega
 have HPK := Lib.hid hpK; have HTK := Lib.hid htK; have HSK := Lib.hid hsK; clear hpK htK hsK
 go_loopw [22] (fun i wr => ∃ k : Nat, k ≤ nC ∧ i = .int .i64 k ∧ Kept (turK w1 (w.heap.size + 1 + 1 + 1)) w1 wr ∧ Blk 40 wr (w.heap.size + 1 + 1 + 1) [.string nm, .slice EE nE cEE, .int .i64 gr, .slice AN nN cN, .slice (some ⟨w1.heap.size, 0, none⟩) nC nC, .slice AW nW cW, .bool mt] ∧ Blk 49 wr w1.heap.size (scells (mixS (fun p => applyT f q (gS cs p)) ZL k))) (fun i _ => nC - (intOf i).toNat)
 case atStart => exact ⟨0, Nat.zero_le _, rfl, hk2, hr2, by rw [mixS_zero]; exact hg2⟩
 case round =>
  clear hk2 hr2 hg2
  obtain ⟨k, hk, rfl, hkw, hr, hg⟩ := hrel
  have HKW := Lib.hid hkw; have HRR := Lib.hid hr; have HG := Lib.hid hg; clear hkw hr hg
  by_cases hlt : k < nC
  ·obtain ⟨b, off, rfl, i0, i1⟩ := (HC.out.ext (HEXT.out _ HKW.out)).g (k := k) (by rw [HLC.out]; exact hlt)
   go_wp2_with fail
   refine wp_at fun W3 hW3 => ?_
   have hx3 : Ext wr W3 := by rw [hW3]; exact (Ext.refl _).alloc _
   have v0 : W3.cell? ⟨wr.heap.size, 0, none⟩ = some (.int .i64 (gS cs k).1) := by rw [hW3]; simp [go_sem]
   have v1 : W3.cell? ⟨wr.heap.size, 1, none⟩ = some (.int .i64 (gS cs k).2) := by rw [hW3]; simp [go_sem]
   have r4 := (HRR.out.ext hx3).cell 4
   have t0 := ((HKW.out.blk HT.out HTK.out).ext hx3).cell 0
   have t1 := ((HKW.out.blk HT.out HTK.out).ext hx3).cell 1
   simp only [List.getElem?_cons_succ, List.getElem?_cons_zero] at r4 t0 t1
   have HX3 := Lib.hid hx3; clear hx3 hW3 i0 i1
   have d0 := fun z : After W3 => After.cell v0 z
   have d1 := fun z : After W3 => After.cell v1 z
   have d2 := fun z : After W3 => After.cell r4 z
   have d3 := fun z : After W3 => After.cell t0 z
   have d4 := fun z : After W3 => After.cell t1 z
   refine region_tail 7 (by kernel_rfl) (by kernel_rfl) ?_
   simp only [List.take_succ_cons, List.take_zero, List.drop_succ_cons, List.drop_zero]
   repeat (go_big_quiet_step ((go_at_call 25; exact after_call (apply_any f q (gS cs k) _))))
   refine wpQuiet_nil ?_
   rintro w4 ⟨⟨_, he⟩, rfl⟩
   clear d0 d1 d2 d3 d4 v0 v1 r4 t0 t1
   have hx4 : Ext wr w4 := HX3.out.trans he
   have HG4 := Lib.hid (HG.out.ext hx4)
   obtain ⟨c0, c1, f0, f1⟩ := pair_cells0 HG4.out (k := k) (by rw [mixS_len, HZL.out, HLC.out]; exact hlt)
   have HX4 := Lib.hid hx4; clear hx4 he
   go_wp2_with fail
   go_roundw
   case rel =>
    refine ⟨k + 1, by omega, by go_num, ?_, ?_, ?_⟩
    ·exact ((HKW.out.trans (HX4.out.kept _)).set (.inr (.inr (Nat.le_refl _))) _).set (.inr (.inr (Nat.le_refl _))) _
    ·exact ((HRR.out.ext HX4.out).other (by simp; omega) _).other (by simp; omega) _
    ·have h := pair_set0 HG4.out (k := k) (by rw [mixS_len, HZL.out, HLC.out]; exact hlt) (applyT f q (gS cs k))
     rw [mixS_succ (f := fun p => applyT f q (gS cs p)) (by rw [HZL.out, HLC.out]; exact hlt)] at h
     exact h
   case measure => simp [intOf]; omega
  ·obtain rfl : k = nC := by omega
   have p5 := (HKW.out.blk HP.out HPK.out).cell 5
   simp only [List.getElem?_cons_succ, List.getElem?_cons_zero] at p5
   go_wp2_with fail
   refine (clone_ints AW nW cW ws _ (HW.out.ext (HEXT.out _ HKW.out)) HLW.out (by omega)).mono ?_
   rintro e w5 ⟨vW, rfl, hoW, he5⟩
   obtain ⟨WW, cWW, hvW, _, _, _⟩ := hoW.slice
   rw [HLW.out] at hvW
   subst hvW
   have HK5 := Lib.hid (HKW.out.trans (he5.kept _))
   have HR5 := Lib.hid (HRR.out.ext he5)
   have HG5 := Lib.hid (HG.out.ext he5)
   have hsz5 : w1.heap.size < w5.heap.size := HG5.out.lt
   have hszr : w1.heap.size < wr.heap.size := HG.out.lt
   have HOW := Lib.hid hoW
   clear hoW he5 p5
   have r5 := HR5.out.cell 5
   have fr5 := HR5.out.frozen 5
   have p3 := (HK5.out.blk HP.out HPK.out).cell 3
   simp only [List.getElem?_cons_succ, List.getElem?_cons_zero] at r5 p3
   go_wp2_with fail
   have HK5' := Lib.hid (HK5.out.set (p := ⟨w.heap.size + 1 + 1 + 1, 5, none⟩) (.inr (.inl rfl)) (.slice WW nW cWW))
   refine (clone_notches AN nN cN ns _ (HN.out.ext (HEXT.out _ HK5'.out)) HLN.out (by omega)).mono ?_
   rintro e w6 ⟨vN, rfl, hoN, he6⟩
   have hvN : ∃ NN cNN, vN = .slice NN nN cNN := by
    rcases hoN.2 with ⟨h, h0⟩ | ⟨g, cap, cur, h, _⟩
    ·rw [HLN.out] at h0; subst h0; exact ⟨_, _, h⟩
    ·rw [HLN.out] at h; exact ⟨_, _, h⟩
   obtain ⟨NN, cNN, hvN⟩ := hvN
   subst hvN
   have HK6 := Lib.hid (HK5'.out.trans (he6.kept _))
   have HR6 := Lib.hid ((HR5.out.set 5 (.slice WW nW cWW)).ext he6)
   have HG6 := Lib.hid ((HG5.out.other (p := ⟨w.heap.size + 1 + 1 + 1, 5, none⟩) (by simp; omega) (.slice WW nW cWW)).ext he6)
   have HOW6 : Hid (OwnI w6 w.heap.size (.slice WW nW cWW) ws) := own_base_le (own_ext (own_set HOW.out (p := ⟨w.heap.size + 1 + 1 + 1, 5, none⟩) (fun h => by have := own_ge HOW.out h; simp at this; omega) (.slice WW nW cWW)) he6) (by omega)
   have HON : Hid (OwnT 79 w6 w1.heap.size (.slice NN nN cNN) ns) := own_base_le hoN (by simp [World.setCell]; omega)
   have hsz6 : w1.heap.size < w6.heap.size := HG6.out.lt
   clear hoN he6 r5 fr5 p3
   have r3 := HR6.out.cell 3
   have fr3 := HR6.out.frozen 3
   have t0 := (HK6.out.blk HT.out HTK.out).cell 0
   simp only [List.set_cons_succ, List.set_cons_zero, List.getElem?_cons_succ, List.getElem?_cons_zero] at r3 t0
   have HK7 := Lib.hid (HK6.out.set (p := ⟨w.heap.size + 1 + 1 + 1, 3, none⟩) (.inr (.inl rfl)) (.slice NN nN cNN))
   have HR7 : Hid (Blk 40 (w6.setCell ⟨w.heap.size + 1 + 1 + 1, 3, none⟩ (.slice NN nN cNN)) (w.heap.size + 1 + 1 + 1) [.string nm, .slice EE nE cEE, .int .i64 gr, .slice NN nN cNN, .slice (some ⟨w1.heap.size, 0, none⟩) k k, .slice WW nW cWW, .bool mt]) := by
    have h := HR6.out.set 3 (.slice NN nN cNN)
    simp at h
    exact h
   have HC7 : Hid (OwnT 49 (w6.setCell ⟨w.heap.size + 1 + 1 + 1, 3, none⟩ (.slice NN nN cNN)) w.heap.size (.slice (some ⟨w1.heap.size, 0, none⟩) k k) (cs.map (applyT f q))) := by
    have h := own_of_blk (base := w.heap.size) (HG6.out.other (p := ⟨w.heap.size + 1 + 1 + 1, 3, none⟩) (by simp; omega) (.slice NN nN cNN)) (by omega) (by rw [mixS_len, HZL.out, HLC.out]; omega)
    rw [mixS_len, HZL.out, HLC.out] at h
    rwa [show k = cs.length from HLC.out.symm, mixS_map HZL.out, ← show k = cs.length from HLC.out.symm] at h
   have HI7 : Hid (OwnI (w6.setCell ⟨w.heap.size + 1 + 1 + 1, 3, none⟩ (.slice NN nN cNN)) w.heap.size (.slice WW nW cWW) ws) := own_set HOW6.out (fun h => own_blk_ne HOW6.out HR6.out (by decide) h) _
   have HN7 : Hid (OwnT 79 (w6.setCell ⟨w.heap.size + 1 + 1 + 1, 3, none⟩ (.slice NN nN cNN)) w.heap.size (.slice NN nN cNN) ns) := own_base_le (own_set HON.out (fun h => own_blk_ne HON.out HR6.out (by decide) h) _) (by omega)
   have HE7 : Hid (OwnE (w6.setCell ⟨w.heap.size + 1 + 1 + 1, 3, none⟩ (.slice NN nN cNN)) w.heap.size (.slice EE nE cEE) (turnE f q es)) := HE1.out.kept HK7.out (fun b hb h => by
    rcases h with h | h
    ·subst h; exact ⟨_, _, HR.out, by decide, by decide⟩
    ·omega)
   cases f
   ·obtain ⟨W8, hW8⟩ : ∃ W8, W8 = w6.setCell ⟨w.heap.size + 1 + 1 + 1, 3, none⟩ (.slice NN nN cNN) := ⟨_, rfl⟩
    go_upto_if 44 with fail
    refine wp_at fun W8' hW8' => ?_
    rw [← hW8] at hW8' HK7 HR7 HC7 HI7 HN7 HE7
    subst hW8'
    have HR8 := Lib.hid HR7.out
    have HS8 := Lib.hid (HK7.out.blk HS.out HSK.out)
    clear hW8 r3 fr3 t0
    have q0 := HR8.out.cell 0
    have q1 := HR8.out.cell 1
    have q2 := HR8.out.cell 2
    have q3 := HR8.out.cell 3
    have q4 := HR8.out.cell 4
    have q5 := HR8.out.cell 5
    have q6 := HR8.out.cell 6
    have s0 := HS8.out.cell 0
    have s1 := HS8.out.cell 1
    have s2 := HS8.out.cell 2
    have s3 := HS8.out.cell 3
    have s4 := HS8.out.cell 4
    have s5 := HS8.out.cell 5
    have s6 := HS8.out.cell 6
    have e0 := HS8.out.frozen 0
    have e1 := HS8.out.frozen 1
    have e2 := HS8.out.frozen 2
    have e3 := HS8.out.frozen 3
    have e4 := HS8.out.frozen 4
    have e5 := HS8.out.frozen 5
    have e6 := HS8.out.frozen 6
    simp only [List.getElem?_cons_succ, List.getElem?_cons_zero] at q0 q1 q2 q3 q4 q5 q6 s0 s1 s2 s3 s4 s5 s6
    go_wp2_with fail
    refine bodyPost_ret (v := .agg #[.string nm, .slice EE nE cEE, .int .i64 gr, .slice NN nN cNN, .slice (some ⟨w1.heap.size, 0, none⟩) k k, .slice WW nW cWW, .bool mt]) (by simp [results, Tryz.results8, go_sem, s0, s1, s2, s3, s4, s5, s6]) rfl ?_
    refine retT_of (W8 := W8') (sb := w.heap.size + 1 + 1) ?_ HS8.out HE7.out HC7.out HI7.out HN7.out (HEXT.out _ HK7.out) (by omega)
    exact kset (kset (kset (kset (kset (kset (kset (Kept.refl _ _) _ _) _ _) _ _) _ _) _ _) _ _) _ _
   ·obtain ⟨W8, hW8⟩ : ∃ W8, W8 = w6.setCell ⟨w.heap.size + 1 + 1 + 1, 3, none⟩ (.slice NN nN cNN) := ⟨_, rfl⟩
    go_upto_if 44 with fail
    refine wp_at fun W8' hW8' => ?_
    rw [← hW8] at hW8' HK7 HR7 HC7 HI7 HN7 HE7
    subst hW8'
    have HP8 := Lib.hid (HK7.out.blk HP.out HPK.out)
    clear hW8 r3 fr3 t0
    have p0 := HP8.out.cell 0
    have p1 := HP8.out.cell 1
    have p2 := HP8.out.cell 2
    have p3 := HP8.out.cell 3
    have p4 := HP8.out.cell 4
    have p5 := HP8.out.cell 5
    have p6 := HP8.out.cell 6
    simp only [List.getElem?_cons_succ, List.getElem?_cons_zero] at p0 p1 p2 p3 p4 p5 p6
    go_wp2_with fail
    refine (mirror_any nm nm AE AN AC AW (some ⟨w1.heap.size, 0, none⟩) WW NN nE cE nN cN k cC nW cW k cWW cNN gr gr mt mt (.slice EE nE cEE) es (cs.map (applyT true q)) ws ns w W8' w.heap.size (w.heap.size + 1 + 1 + 1) (HEXT.out _ HK7.out) (Nat.le_refl _) (Ext.size (HEXT.out _ HK7.out)) HE.out HLE.out hnE HW.out HLW.out hnW HN.out HLN.out hnN hnC HC7.out HI7.out HN7.out HR7.out).mono ?_
    rintro e w9 ⟨rfl, hC9, hI9, hN9, hk9, hx9⟩
    clear p0 p1 p2 p3 p4 p5 p6
    have hmK : ∀ b, mirK (.slice (some ⟨w1.heap.size, 0, none⟩) k k) (.slice WW nW cWW) (.slice NN nN cNN) b → w1.heap.size ≤ b := by
     rintro b (h | h | h)
     ·simp [Value.ownBlock] at h; omega
     ·have := own_ge HOW.out h; omega
     ·exact own_ge HON.out h
    have hK9 : Kept (turK w1 (w.heap.size + 1 + 1 + 1)) w1 w9 := HK7.out.trans (hk9.mono fun b _ h => .inr (hmK b h))
    have hR9 : Blk 40 w9 (w.heap.size + 1 + 1 + 1) _ := hk9.blk HR7.out (fun h => by have := hmK _ h; omega)
    have hS9 : Blk 40 w9 (w.heap.size + 1 + 1) _ := hK9.blk HS.out HSK.out
    have hE9 : OwnE w9 w.heap.size (.slice EE nE cEE) (turnE true q es) := HE1.out.kept hK9 (fun b hb h => by
     rcases h with h | h
     ·subst h; exact ⟨_, _, HR.out, by decide, by decide⟩
     ·omega)
    have HR8 := Lib.hid hR9; have HS8 := Lib.hid hS9; have HE9 := Lib.hid hE9; have HC9 := Lib.hid hC9; have HI9 := Lib.hid hI9; have HN9 := Lib.hid hN9; have HX9 := Lib.hid hx9
    clear hR9 hS9 hE9 hC9 hI9 hN9 hx9 hK9 hk9 hmK
    have q0 := HR8.out.cell 0
    have q1 := HR8.out.cell 1
    have q2 := HR8.out.cell 2
    have q3 := HR8.out.cell 3
    have q4 := HR8.out.cell 4
    have q5 := HR8.out.cell 5
    have q6 := HR8.out.cell 6
    have s0 := HS8.out.cell 0
    have s1 := HS8.out.cell 1
    have s2 := HS8.out.cell 2
    have s3 := HS8.out.cell 3
    have s4 := HS8.out.cell 4
    have s5 := HS8.out.cell 5
    have s6 := HS8.out.cell 6
    have e0 := HS8.out.frozen 0
    have e1 := HS8.out.frozen 1
    have e2 := HS8.out.frozen 2
    have e3 := HS8.out.frozen 3
    have e4 := HS8.out.frozen 4
    have e5 := HS8.out.frozen 5
    have e6 := HS8.out.frozen 6
    simp only [List.getElem?_cons_succ, List.getElem?_cons_zero] at q0 q1 q2 q3 q4 q5 q6 s0 s1 s2 s3 s4 s5 s6
    go_wp2_with fail
    refine bodyPost_ret (v := .agg #[.string nm, .slice EE nE cEE, .int .i64 gr, .slice NN nN cNN, .slice (some ⟨w1.heap.size, 0, none⟩) k k, .slice WW nW cWW, .bool mt]) (by simp [results, Tryz.results8, go_sem, s0, s1, s2, s3, s4, s5, s6]) rfl ?_
    refine retT_of (W8 := w9) (sb := w.heap.size + 1 + 1) ?_ HS8.out HE9.out HC9.out HI9.out HN9.out HX9.out (by omega)
    exact kset (kset (kset (kset (kset (kset (kset (Kept.refl _ _) _ _) _ _) _ _) _ _) _ _) _ _) _ _
end Go.Proofs.YtfegbaokcbjllaaGreat
