/- grade.mirror -/
import Derived.Lib.SliceRun
import Derived.Deep.Cut
import Derived.Test.YtkigmpholnfkbaaGreatKWd
import Derived.Test.YtkigmpholnfkbaaGreatKSeg
import Derived.Test.YtkigmpholnfkbaaGreatKTail
/- slices.Clone at spots, notches, numbers -/
namespace Go.Proofs.YtkigmpholnfkbaaGreat
open Go.RowKit
/- notches are pairs of numbers, as spots are; only the row's type is another one -/
def OwnN (w : World) (base : Nat) (v : Value) (l : List Spot) : Prop := w.ownsRow base 95 2 v l.length (scells l)
theorem notch_info : (Tryz.prog.info? 95).map (fun i => (i.zero, i.size, i.bytes)) = some (some (.agg #[.int .i64 0, .int .i64 0]), 2, 16) := by kernel_rfl
theorem SpotsAt.cellsA {w : World} {a : Addr} {l : List Spot} (h : SpotsAt w (some a) l) : ∀ j u, (scells l)[j]? = some u → w.cell? (a.add j) = some u := by
  intro j u hu
  have hj : 0 < l.length := by
    rcases Nat.eq_zero_or_pos l.length with h0 | h0
    · rw [List.eq_nil_of_length_eq_zero h0] at hu; simp [scells] at hu
    · exact h0
  obtain ⟨b, off, e, _⟩ := h.g hj
  injection e with e
  subst e
  exact h.cells j u hu
theorem IntsAt.cellsA {w : World} {a : Addr} {l : List Int} (h : IntsAt w (some a) l) : ∀ j u, (icells l)[j]? = some u → w.cell? (a.add j) = some u := by
  intro j u hu
  have hj : 0 < l.length := by
    rcases Nat.eq_zero_or_pos l.length with h0 | h0
    · rw [List.eq_nil_of_length_eq_zero h0] at hu; simp [icells] at hu
    · exact h0
  obtain ⟨b, off, e, _⟩ := h.g hj
  injection e with e
  subst e
  exact h.cells j u hu
def RetN (w : World) (l : List Spot) (e : Ending) (w' : World) : Prop := ∃ v, e = .returned v ∧ OwnN w' w.heap.size v l ∧ Ext w w'
def RetI (w : World) (l : List Int) (e : Ending) (w' : World) : Prop := ∃ v, e = .returned v ∧ OwnI w' w.heap.size v l ∧ Ext w w'
set_option maxRecDepth 100000 in
set_option maxHeartbeats 1000000 in
theorem clone_spots (A : Option Addr) (n c : Nat) (l : List Spot) (w : World) (hp : plainA A) (ha : SpotsAt w A l) (hl : l.length = n) (hbig : n * 16 ≤ 140737488355328) :
    Calls Tryz.prog 78 #[.slice A n c] w (RetS w l) := by
  have HL := Lib.hid hl; clear hl
  have HA := Lib.hid ha; clear ha
  have q22 : ∀ (w : World) (a : Option Addr) (n c n' c' : Nat), (binOp .eql 50 (.slice a n c) (.slice none n' c')).run Tryz.prog w = .ok (.bool a.isNone) w := fun w a n c n' c' => Lib.run_eql_slice_nil w _ _ a n c n' c' Tryz.underlying50
  cases A with
  | none =>
    obtain rfl : l = [] := HA.out.nilA
    go_enter Tryz.func78, Tryz.ntmps78
    go_wp2_with fail
    go_ret
    exact ⟨_, rfl, OwnS.nil _ _, Ext.refl _⟩
  | some a =>
    obtain ⟨b, off, rfl⟩ := hp a rfl
    obtain ⟨i0, hi0, hi1⟩ := Option.map_eq_some_iff.1 spot_info
    simp only [Prod.mk.injEq] at hi1
    obtain ⟨hz0, hz1, hz2⟩ := hi1
    have HX := Lib.hid (HA.out.cells)
    go_enter Tryz.func78, Tryz.ntmps78
    go_wp2_with (at_builtin; refine wpList_append_own _ rfl _ _ 50 rfl w.heap.size 62 i0 (.agg #[.int .i64 0, .int .i64 0]) 2 16 Tryz.underlying50 hi0 hz0 hz1 hz2 rfl (by decide) _ _ _ rfl (World.ownsRow_made w #[] 0 (Nat.le_refl _) (Nat.zero_le _) rfl) ⟨b, off, none⟩ n c (scells l) rfl ?qc1 ?qc2 ?qc3 ?qc4 ?qc5 ?qc6 ?_)
    case qc1 => rw [scells_length, HL.out]
    case qc2 => intro j u hj; exact (Lib.cell?_alloc_some _ (HX.out j u hj))
    case qc3 => exact scells_one' l
    case qc4 => unfold maxLen; omega
    case qc5 => omega
    case qc6 => simp
    intro v' w1 hown hgrow hnil
    go_wp2_with fail
    go_ret
    refine ⟨v', rfl, ?_, ?_⟩
    · unfold OwnS; rw [HL.out]; simpa using hown
    · exact ((Ext.refl w).alloc _).grown hgrow (by intro k hk; simp [Value.ownBlock] at hk; omega)
set_option maxRecDepth 100000 in
set_option maxHeartbeats 1000000 in
theorem clone_notches (A : Option Addr) (n c : Nat) (l : List Spot) (w : World) (ha : SpotsAt w A l) (hl : l.length = n) (hbig : n * 16 ≤ 140737488355328) :
    Calls Tryz.prog 56 #[.slice A n c] w (RetN w l) := by
  have HL := Lib.hid hl; clear hl
  have HA := Lib.hid ha; clear ha
  have q22 : ∀ (w : World) (a : Option Addr) (n c n' c' : Nat), (binOp .eql 49 (.slice a n c) (.slice none n' c')).run Tryz.prog w = .ok (.bool a.isNone) w := fun w a n c n' c' => Lib.run_eql_slice_nil w _ _ a n c n' c' Tryz.underlying49
  cases A with
  | none =>
    obtain rfl : l = [] := HA.out.nilA
    go_enter Tryz.func56, Tryz.ntmps56
    go_wp2_with fail
    go_ret
    exact ⟨_, rfl, World.ownsRow_nil _ _ _ _, Ext.refl _⟩
  | some a =>
    obtain ⟨i0, hi0, hi1⟩ := Option.map_eq_some_iff.1 notch_info
    simp only [Prod.mk.injEq] at hi1
    obtain ⟨hz0, hz1, hz2⟩ := hi1
    have HX := Lib.hid (HA.out.cellsA)
    go_enter Tryz.func56, Tryz.ntmps56
    go_wp2_with (at_builtin; refine wpList_append_own _ rfl _ _ 49 rfl w.heap.size 95 i0 (.agg #[.int .i64 0, .int .i64 0]) 2 16 Tryz.underlying49 hi0 hz0 hz1 hz2 rfl (by decide) _ _ _ rfl (World.ownsRow_made w #[] 0 (Nat.le_refl _) (Nat.zero_le _) rfl) a n c (scells l) rfl ?qc1 ?qc2 ?qc3 ?qc4 ?qc5 ?qc6 ?_)
    case qc1 => rw [scells_length, HL.out]
    case qc2 => intro j u hj; exact (Lib.cell?_alloc_some _ (HX.out j u hj))
    case qc3 => exact scells_one' l
    case qc4 => unfold maxLen; omega
    case qc5 => omega
    case qc6 => simp
    intro v' w1 hown hgrow hnil
    go_wp2_with fail
    go_ret
    refine ⟨v', rfl, ?_, ?_⟩
    · unfold OwnN; rw [HL.out]; simpa using hown
    · exact ((Ext.refl w).alloc _).grown hgrow (by intro k hk; simp [Value.ownBlock] at hk; omega)
set_option maxRecDepth 100000 in
set_option maxHeartbeats 1000000 in
theorem clone_ints (A : Option Addr) (n c : Nat) (l : List Int) (w : World) (ha : IntsAt w A l) (hl : l.length = n) (hbig : n * 8 ≤ 140737488355328) :
    Calls Tryz.prog 55 #[.slice A n c] w (RetI w l) := by
  have HL := Lib.hid hl; clear hl
  have HA := Lib.hid ha; clear ha
  have q22 : ∀ (w : World) (a : Option Addr) (n c n' c' : Nat), (binOp .eql 23 (.slice a n c) (.slice none n' c')).run Tryz.prog w = .ok (.bool a.isNone) w := fun w a n c n' c' => Lib.run_eql_slice_nil w _ _ a n c n' c' Tryz.underlying23
  cases A with
  | none =>
    obtain rfl : l = [] := HA.out.nilA
    go_enter Tryz.func55, Tryz.ntmps55
    go_wp2_with fail
    go_ret
    exact ⟨_, rfl, OwnI.nil _ _, Ext.refl _⟩
  | some a =>
    obtain ⟨i0, hi0, hi1⟩ := Option.map_eq_some_iff.1 int_info
    simp only [Prod.mk.injEq] at hi1
    obtain ⟨hz0, hz1, hz2⟩ := hi1
    have HX := Lib.hid (HA.out.cellsA)
    go_enter Tryz.func55, Tryz.ntmps55
    go_wp2_with (at_builtin; refine wpList_append_own _ rfl _ _ 23 rfl w.heap.size 3 i0 (.int .i64 0) 1 8 Tryz.underlying23 hi0 hz0 hz1 hz2 rfl (by decide) _ _ _ rfl (World.ownsRow_made w #[] 0 (Nat.le_refl _) (Nat.zero_le _) rfl) a n c (icells l) rfl ?qc1 ?qc2 ?qc3 ?qc4 ?qc5 ?qc6 ?_)
    case qc1 => simp [icells, HL.out]
    case qc2 => intro j u hj; exact (Lib.cell?_alloc_some _ (HX.out j u hj))
    case qc3 => intro u hu; obtain ⟨x, _, rfl⟩ := List.mem_map.1 hu; rfl
    case qc4 => unfold maxLen; omega
    case qc5 => omega
    case qc6 => simp
    intro v' w1 hown hgrow hnil
    go_wp2_with fail
    go_ret
    refine ⟨v', rfl, ?_, ?_⟩
    · unfold OwnI; rw [HL.out]; simpa using hown
    · exact ((Ext.refl w).alloc _).grown hgrow (by intro k hk; simp [Value.ownBlock] at hk; omega)
end Go.Proofs.YtkigmpholnfkbaaGreat
/- grade.mirrored, mirror -/
namespace Go.Proofs.YtkigmpholnfkbaaGreat
open Go.RowKit
def mirAt (L a : Int) : Int := if 0 ≤ a ∧ a ≤ L then L - a else 0
def mirN (es : List Edge) (k : Nat) (a : Int) : Spot := (((es.length - k) % es.length : Nat), mirAt (lengthN (gE es k).2) a)
theorem lengthN_le (l : List Spot) : lengthN l ≤ 1000000000000 := by
  unfold lengthN
  split
  · omega
  · rename_i h
    obtain ⟨h2, h40, hin⟩ := lcheck_zero (l := l) (by omega)
    have := lenTo_le hin (l.length - 1) (by omega)
    have : (l.length - 1) * 4294967296 ≤ 39 * 4294967296 := Nat.mul_le_mul (by omega) (by omega)
    omega
theorem sub_mod_facts (n k : Nat) (hk : k < n) : -(k : Int) % n = (((n - k) % n : Nat) : Int) ∧ ((n : Int) - k) % n = (((n - k) % n : Nat) : Int) := by
  have h : ((n : Int) - k) % n = (((n - k) % n : Nat) : Int) := by rw [Int.natCast_emod, Int.ofNat_sub (by omega)]
  refine ⟨?_, h⟩
  rw [← h, show (n : Int) - k = -k + n from by omega]; simp
set_option maxRecDepth 100000 in
set_option maxHeartbeats 1000000 in
theorem mirrored_any (A : Option Addr) (n c k : Nat) (a : Int) (l : List Edge) (w : World) (ha : EdgesAt w A l) (hl : l.length = n) (hk : k < n) (hn : n ≤ 1000) :
    Calls Tryz.prog 79 #[.agg #[.int .i64 k, .int .i64 a], .slice A n c] w fun e w' => e = .returned (SV (mirN l k a)) ∧ Ext w w' := by
  obtain ⟨b, off, B, cap, rfl, hn0, hc0, hS, hcap, hcap'⟩ := ha.g (k := k) (by omega)
  have hLN := lengthN_le (gE l k).2
  obtain ⟨hm1, hm2⟩ := sub_mod_facts n k hk
  have hm3 : (n - k) % n < n := Nat.mod_lt _ (by omega)
  have HS := Lib.hid hS; clear hS
  have hnz : ((n : Int) == 0) = false := by simp; omega
  obtain ⟨ln, hln⟩ : ∃ ln, ln = (gE l k).2 := ⟨_, rfl⟩
  rw [← hln] at hc0 HS hLN hcap
  have HR : Hid (mirN l k a = ((((n - k) % n : Nat) : Int), mirAt (lengthN ln) a)) := by show mirN l k a = _; rw [mirN, hl, hln]
  clear ha hln hn0 hl
  have hbl : b < w.heap.size := cell_lt hc0
  obtain ⟨LN, hLN'⟩ : ∃ LN, LN = lengthN ln := ⟨_, rfl⟩
  have HLE := Lib.hid hLN'
  rw [← hLN'] at HR hLN
  have HLN := Lib.hid hLN'; clear hLN'
  go_enter Tryz.func79, Tryz.ntmps79
  go_wp2_with fail
  refine (length_any B ln.length cap ln _ ((HS.out.ext ((Ext.refl _).alloc _)).ext ((Ext.refl _).alloc _)) rfl).mono ?_
  rintro e w1 ⟨rfl, he1⟩
  have hx1 : Ext w w1 := (((Ext.refl w).alloc _).alloc _).trans he1
  have c0 : w1.cell? ⟨w.heap.size, 0, none⟩ = some (.int .i64 k) := he1.cell (by simp [go_sem])
  have c1 : w1.cell? ⟨w.heap.size, 1, none⟩ = some (.int .i64 a) := he1.cell (by simp [go_sem])
  have d0 : w1.cell? ⟨w.heap.size + 1, 0, none⟩ = some (.int .i64 0) := he1.cell (by simp [go_sem])
  have d1 : w1.cell? ⟨w.heap.size + 1, 1, none⟩ = some (.int .i64 0) := he1.cell (by simp [go_sem])
  have f0 : w1.frozen? ⟨w.heap.size + 1, 0, none⟩ = false := he1.frz (v := .int .i64 0) (by simp [go_sem]) (by simp [go_sem])
  have f1 : w1.frozen? ⟨w.heap.size + 1, 1, none⟩ = false := he1.frz (v := .int .i64 0) (by simp [go_sem]) (by simp [go_sem])
  have hw1 : w.heap.size < w1.heap.size := cell_lt c0
  have hw2 : w.heap.size + 1 < w1.heap.size := cell_lt d0
  have HX := Lib.hid hx1
  clear he1 hx1 hc0
  rw [← HLE.out]
  have hsplit : lcheck ln = 0 ∨ lcheck ln ≠ 0 ∧ LN = 0 := by
    rcases Classical.em (lcheck ln = 0) with h | h
    · exact .inl h
    · exact .inr ⟨h, by rw [HLE.out]; unfold lengthN; rw [if_pos h]⟩
  obtain ⟨cz, hcz⟩ : ∃ cz, cz = lcheck ln := ⟨_, rfl⟩
  rw [← hcz] at hsplit ⊢
  clear hcz
  by_cases hp : 0 ≤ a
  · by_cases hq : a ≤ LN
    · have hv : mirAt LN a = LN - a := by unfold mirAt; rw [if_pos ⟨hp, hq⟩]
      have HV := Lib.hid hv; clear hv
      rcases hsplit with rfl | ⟨hne, rfl⟩
      · go_wp2_with fail
        refine bodyPost_ret (v := SV (mirN l k a)) (by rw [HR.out, HV.out]; simp [results, Tryz.results79, go_sem, d0, d1]) rfl ⟨rfl, ?_⟩
        exact (HX.out.setCell (by simp) _).setCell (by simp) _
      · have hd : (cz == 0) = false := by simp [hne]
        obtain rfl : a = 0 := by omega
        go_wp2_with fail
        refine bodyPost_ret (v := SV (mirN l k 0)) (by rw [HR.out, HV.out]; simp [results, Tryz.results79, go_sem, d0, d1]) rfl ⟨rfl, ?_⟩
        exact (HX.out.setCell (by simp) _).setCell (by simp) _
    · have hv : mirAt LN a = 0 := by unfold mirAt; rw [if_neg (by omega)]
      have HV := Lib.hid hv; clear hv
      rcases hsplit with rfl | ⟨hne, rfl⟩
      · go_wp2_with fail
        refine bodyPost_ret (v := SV (mirN l k a)) (by rw [HR.out, HV.out]; simp [results, Tryz.results79, go_sem, d0, d1]) rfl ⟨rfl, ?_⟩
        exact (HX.out.setCell (by simp) _).setCell (by simp) _
      · have hd : (cz == 0) = false := by simp [hne]
        have hq' : ¬ a ≤ 0 := by omega
        go_wp2_with fail
        refine bodyPost_ret (v := SV (mirN l k a)) (by rw [HR.out, HV.out]; simp [results, Tryz.results79, go_sem, d0, d1]) rfl ⟨rfl, ?_⟩
        exact (HX.out.setCell (by simp) _).setCell (by simp) _
  · have hv : mirAt LN a = 0 := by unfold mirAt; rw [if_neg (by omega)]
    have HV := Lib.hid hv; clear hv
    rcases hsplit with rfl | ⟨hne, rfl⟩
    · go_wp2_with fail
      refine bodyPost_ret (v := SV (mirN l k a)) (by rw [HR.out, HV.out]; simp [results, Tryz.results79, go_sem, d0, d1]) rfl ⟨rfl, ?_⟩
      exact (HX.out.setCell (by simp) _).setCell (by simp) _
    · have hd : (cz == 0) = false := by simp [hne]
      go_wp2_with fail
      refine bodyPost_ret (v := SV (mirN l k a)) (by rw [HR.out, HV.out]; simp [results, Tryz.results79, go_sem, d0, d1]) rfl ⟨rfl, ?_⟩
      exact (HX.out.setCell (by simp) _).setCell (by simp) _
end Go.Proofs.YtkigmpholnfkbaaGreat
namespace Go.Proofs.YtkigmpholnfkbaaGreat
open Go.RowKit
def mixS (f : Nat → Spot) (L : List Spot) (k : Nat) : List Spot := (List.range L.length).map fun p => if p < k then f p else gS L p
theorem mixS_len (f : Nat → Spot) (L : List Spot) (k : Nat) : (mixS f L k).length = L.length := by simp [mixS]
theorem mixS_get {f : Nat → Spot} {L : List Spot} {k p : Nat} (hp : p < L.length) : gS (mixS f L k) p = if p < k then f p else gS L p := by simp [gS, mixS, hp]
theorem mixS_zero (f : Nat → Spot) (L : List Spot) : mixS f L 0 = L := list_ext_gS (mixS_len f L 0) fun p hp => by
  rw [mixS_len] at hp
  rw [mixS_get hp, if_neg (by omega)]
theorem mixS_succ {f : Nat → Spot} {L : List Spot} {k : Nat} (h : k < L.length) : (mixS f L k).set k (f k) = mixS f L (k + 1) :=
  list_ext_gS (by simp [mixS_len]) fun p hp => by
    simp [mixS_len] at hp
    rw [gS_set (by rw [mixS_len]; omega), mixS_get hp, mixS_get hp]
    by_cases h1 : p = k
    · subst h1; rw [if_pos rfl, if_pos (by omega)]
    · rw [if_neg h1]
      by_cases h2 : p < k
      · rw [if_pos h2, if_pos (by omega)]
      · rw [if_neg h2, if_neg (by omega)]
theorem mixS_skip {f : Nat → Spot} {L : List Spot} {k : Nat} (h : f k = gS L k) : mixS f L k = mixS f L (k + 1) :=
  list_ext_gS (by simp [mixS_len]) fun p hp => by
    rw [mixS_len] at hp
    rw [mixS_get hp, mixS_get hp]
    by_cases h1 : p = k
    · subst h1; rw [if_neg (by omega), if_pos (by omega), h]
    · by_cases h2 : p < k
      · rw [if_pos h2, if_pos (by omega)]
      · rw [if_neg h2, if_neg (by omega)]
def mixI (f : Nat → Int) (L : List Int) (k : Nat) : List Int := (List.range L.length).map fun p => if p < k then f p else gI L p
theorem mixI_len (f : Nat → Int) (L : List Int) (k : Nat) : (mixI f L k).length = L.length := by simp [mixI]
theorem mixI_get {f : Nat → Int} {L : List Int} {k p : Nat} (hp : p < L.length) : gI (mixI f L k) p = if p < k then f p else gI L p := by simp [gI, mixI, hp]
theorem mixI_zero (f : Nat → Int) (L : List Int) : mixI f L 0 = L := list_ext_gI (mixI_len f L 0) fun p hp => by
  rw [mixI_len] at hp
  rw [mixI_get hp, if_neg (by omega)]
theorem mixI_succ {f : Nat → Int} {L : List Int} {k : Nat} (h : k < L.length) : (mixI f L k).set k (f k) = mixI f L (k + 1) :=
  list_ext_gI (by simp [mixI_len]) fun p hp => by
    simp [mixI_len] at hp
    rw [gI_set (by rw [mixI_len]; omega), mixI_get hp, mixI_get hp]
    by_cases h1 : p = k
    · subst h1; rw [if_pos rfl, if_pos (by omega)]
    · rw [if_neg h1]
      by_cases h2 : p < k
      · rw [if_pos h2, if_pos (by omega)]
      · rw [if_neg h2, if_neg (by omega)]
def mirCF (n : Nat) (L : List Spot) (j : Nat) : Spot := gS L ((n - j + 1) % n)
def mirWF (n : Nat) (L : List Int) (j : Nat) : Int := gI L ((n - j) % n)
def mirNF (es : List Edge) (L : List Spot) (j : Nat) : Spot := if 0 ≤ (gS L j).1 ∧ (gS L j).1 < es.length then mirN es (gS L j).1.toNat (gS L j).2 else gS L j
def mirC (n : Nat) (L : List Spot) : List Spot := if L.length = n then mixS (mirCF n L) L n else L
def mirW (n : Nat) (L : List Int) : List Int := if L.length = n then mixI (mirWF n L) L n else L
def mirNs (es : List Edge) (L : List Spot) : List Spot := mixS (mirNF es L) L L.length
/- the memory in which mirror works: the three rows of the result, the box of p (block pb), the result (block rb) -/
structure MirS (K : Nat → Prop) (w0 w : World) (B pb rb : Nat) (pc rc : List Value) (vC vW vN : Value) (LC : List Spot) (LW : List Int) (LN : List Spot) (wr : World) : Prop where
  c : OwnT 62 wr B vC LC
  i : OwnI wr B vW LW
  n : OwnT 95 wr B vN LN
  p : Blk 52 wr pb pc
  r : Blk 52 wr rb rc
  k : Kept K w wr
  e : Ext w0 wr
section
variable {K : Nat → Prop} {w0 w : World} {B pb rb : Nat} {pc rc : List Value} {vC vW vN : Value} {LC : List Spot} {LW : List Int} {LN : List Spot} {wr : World}
theorem MirS.ext (h : MirS K w0 w B pb rb pc rc vC vW vN LC LW LN wr) {w' : World} (he : Ext wr w') : MirS K w0 w B pb rb pc rc vC vW vN LC LW LN w' :=
  ⟨own_ext h.c he, own_ext h.i he, own_ext h.n he, h.p.ext he, h.r.ext he, h.k.trans (he.kept K), h.e.trans he⟩
theorem MirS.set0 (h : MirS K w0 w B pb rb pc rc vC vW vN LC LW LN wr) {g : Nat} {t : TypeId} {cs : List Value} (hB : Blk t wr g cs) (hg : B ≤ g) (hw : w0.heap.size ≤ B) (hK : K g) (hp : t ≠ 52) (j : Nat) (u : Value) :
    (t ≠ 62 → OwnT 62 (wr.setCell ⟨g, j, none⟩ u) B vC LC) ∧ (t ≠ 3 → OwnI (wr.setCell ⟨g, j, none⟩ u) B vW LW) ∧ (t ≠ 95 → OwnT 95 (wr.setCell ⟨g, j, none⟩ u) B vN LN) ∧
    Blk 52 (wr.setCell ⟨g, j, none⟩ u) pb pc ∧ Blk 52 (wr.setCell ⟨g, j, none⟩ u) rb rc ∧ Kept K w (wr.setCell ⟨g, j, none⟩ u) ∧ Ext w0 (wr.setCell ⟨g, j, none⟩ u) ∧ Blk t (wr.setCell ⟨g, j, none⟩ u) g (cs.set j u) :=
  ⟨fun ht => own_set h.c (own_blk_ne h.c hB (Ne.symm ht)) u, fun ht => own_set h.i (own_blk_ne h.i hB (Ne.symm ht)) u, fun ht => own_set h.n (own_blk_ne h.n hB (Ne.symm ht)) u,
   h.p.other (h.p.ne hB (Ne.symm hp)) u, h.r.other (h.r.ne hB (Ne.symm hp)) u, h.k.set (.inr hK) u, h.e.setCell (Nat.le_trans hw hg) u, hB.set j u⟩
theorem MirS.setC {A : Option Addr} {n cap : Nat} (h : MirS K w0 w B pb rb pc rc (.slice A n cap) vW vN LC LW LN wr) (hK : ∀ k, (Value.slice A n cap).ownBlock = some k → K k) (hw : w0.heap.size ≤ B) {k : Nat} (hk : k < n) :
    ∃ g, A = some ⟨g, 0, none⟩ ∧ LC.length = n ∧ wr.cell? ⟨g, k * 2, none⟩ = some (.int .i64 (gS LC k).1) ∧ wr.cell? ⟨g, k * 2 + 1, none⟩ = some (.int .i64 (gS LC k).2) ∧ wr.frozen? ⟨g, k * 2, none⟩ = false ∧ wr.frozen? ⟨g, k * 2 + 1, none⟩ = false ∧ g ≠ pb ∧ g ≠ rb ∧
      ∀ s : Spot, MirS K w0 w B pb rb pc rc (.slice A n cap) vW vN (LC.set k s) LW LN ((wr.setCell ⟨g, k * 2, none⟩ (.int .i64 s.1)).setCell ⟨g, k * 2 + 1, none⟩ (.int .i64 s.2)) := by
  obtain ⟨g, rfl, hb, hl, ⟨cs, hB⟩, c0, c1, f0, f1, hs⟩ := own_pair h.c hk
  refine ⟨g, rfl, hl, c0, c1, f0, f1, (h.p.ne hB (by decide)).symm, (h.r.ne hB (by decide)).symm, fun s => ?_⟩
  obtain ⟨_, a2, a3, a4, a5, a6, a7, a8⟩ := h.set0 hB hb hw (hK g rfl) (by decide) (k * 2) (.int .i64 s.1)
  have h1 : MirS K w0 w B pb rb pc rc (.slice none 0 0) vW vN [] LW LN (wr.setCell ⟨g, k * 2, none⟩ (.int .i64 s.1)) := ⟨World.ownsRow_nil _ _ _ _, a2 (by decide), a3 (by decide), a4, a5, a6, a7⟩
  obtain ⟨_, b2, b3, b4, b5, b6, b7, _⟩ := h1.set0 a8 hb hw (hK g rfl) (by decide) (k * 2 + 1) (.int .i64 s.2)
  exact ⟨hs s, b2 (by decide), b3 (by decide), b4, b5, b6, b7⟩
theorem MirS.setN {A : Option Addr} {n cap : Nat} (h : MirS K w0 w B pb rb pc rc vC vW (.slice A n cap) LC LW LN wr) (hK : ∀ k, (Value.slice A n cap).ownBlock = some k → K k) (hw : w0.heap.size ≤ B) {k : Nat} (hk : k < n) :
    ∃ g, A = some ⟨g, 0, none⟩ ∧ LN.length = n ∧ wr.cell? ⟨g, k * 2, none⟩ = some (.int .i64 (gS LN k).1) ∧ wr.cell? ⟨g, k * 2 + 1, none⟩ = some (.int .i64 (gS LN k).2) ∧ wr.frozen? ⟨g, k * 2, none⟩ = false ∧ wr.frozen? ⟨g, k * 2 + 1, none⟩ = false ∧ g ≠ pb ∧ g ≠ rb ∧
      ∀ s : Spot, MirS K w0 w B pb rb pc rc vC vW (.slice A n cap) LC LW (LN.set k s) ((wr.setCell ⟨g, k * 2, none⟩ (.int .i64 s.1)).setCell ⟨g, k * 2 + 1, none⟩ (.int .i64 s.2)) := by
  obtain ⟨g, rfl, hb, hl, ⟨cs, hB⟩, c0, c1, f0, f1, hs⟩ := own_pair h.n hk
  refine ⟨g, rfl, hl, c0, c1, f0, f1, (h.p.ne hB (by decide)).symm, (h.r.ne hB (by decide)).symm, fun s => ?_⟩
  obtain ⟨a1, a2, _, a4, a5, a6, a7, a8⟩ := h.set0 hB hb hw (hK g rfl) (by decide) (k * 2) (.int .i64 s.1)
  have h1 : MirS K w0 w B pb rb pc rc vC vW (.slice none 0 0) LC LW [] (wr.setCell ⟨g, k * 2, none⟩ (.int .i64 s.1)) := ⟨a1 (by decide), a2 (by decide), World.ownsRow_nil _ _ _ _, a4, a5, a6, a7⟩
  obtain ⟨b1, b2, _, b4, b5, b6, b7, _⟩ := h1.set0 a8 hb hw (hK g rfl) (by decide) (k * 2 + 1) (.int .i64 s.2)
  exact ⟨b1 (by decide), b2 (by decide), hs s, b4, b5, b6, b7⟩
theorem MirS.setI {A : Option Addr} {n cap : Nat} (h : MirS K w0 w B pb rb pc rc vC (.slice A n cap) vN LC LW LN wr) (hK : ∀ k, (Value.slice A n cap).ownBlock = some k → K k) (hw : w0.heap.size ≤ B) {k : Nat} (hk : k < n) :
    ∃ g, A = some ⟨g, 0, none⟩ ∧ LW.length = n ∧ wr.cell? ⟨g, k, none⟩ = some (.int .i64 (gI LW k)) ∧ wr.frozen? ⟨g, k, none⟩ = false ∧ g ≠ pb ∧ g ≠ rb ∧
      ∀ x : Int, MirS K w0 w B pb rb pc rc vC (.slice A n cap) vN LC (LW.set k x) LN (wr.setCell ⟨g, k, none⟩ (.int .i64 x)) := by
  obtain ⟨g, rfl, hb, hl, ⟨cs, hB⟩, c0, f0, hs⟩ := own_int h.i hk
  refine ⟨g, rfl, hl, c0, f0, (h.p.ne hB (by decide)).symm, (h.r.ne hB (by decide)).symm, fun s => ?_⟩
  obtain ⟨a1, _, a3, a4, a5, a6, a7, _⟩ := h.set0 hB hb hw (hK g rfl) (by decide) k (.int .i64 s)
  exact ⟨a1 (by decide), hs s, a3 (by decide), a4, a5, a6, a7⟩
end
def mirK (vC vW vN : Value) (k : Nat) : Prop := vC.ownBlock = some k ∨ vW.ownBlock = some k ∨ vN.ownBlock = some k
set_option maxRecDepth 100000 in
set_option maxHeartbeats 3200000 in
theorem mirror_any (nm nm' : ByteArray) (AE AN AC AW CC CW CN : Option Addr) (nE cE nN cN nC cC nW cW kC kW kN : Nat) (gr gr' : Int) (mt mt' : Bool) (vE : Value) (es : List Edge) (LC : List Spot) (ws : List Int) (ns : List Spot) (w0 w : World) (B rb : Nat)
    (h0 : Ext w0 w) (hB : w0.heap.size ≤ B) (hBw : B ≤ w.heap.size) (hE : EdgesAt w0 AE es) (hlE : es.length = nE) (hnE : nE ≤ 1000) (hW : IntsAt w0 AW ws) (hlW : ws.length = nW) (hnW : nW ≤ 1000) (hN : SpotsAt w0 AN ns) (hlN : ns.length = nN) (hnN : nN ≤ 1000) (hnC : nC ≤ 1000)
    (oC : OwnT 62 w B (.slice CC nC kC) LC) (oW : OwnI w B (.slice CW nW kW) ws) (oN : OwnT 95 w B (.slice CN nN kN) ns)
    (hr : Blk 52 w rb [.string nm', vE, .int .i64 gr', .slice CN nN kN, .slice CC nC kC, .slice CW nW kW, .bool mt']) :
    Calls Tryz.prog 57 #[.agg #[.string nm, .slice AE nE cE, .int .i64 gr, .slice AN nN cN, .slice AC nC cC, .slice AW nW cW, .bool mt], .pointer (some ⟨rb, 0, none⟩)] w fun e w' => e = .returned (.tuple #[]) ∧
      OwnT 62 w' B (.slice CC nC kC) (mirC nE LC) ∧ OwnI w' B (.slice CW nW kW) (mirW nE ws) ∧ OwnT 95 w' B (.slice CN nN kN) (mirNs es ns) ∧ Kept (mirK (.slice CC nC kC) (.slice CW nW kW) (.slice CN nN kN)) w w' ∧ Ext w0 w' := by
  have HLE := Lib.hid hlE; clear hlE
  have HLW := Lib.hid hlW; clear hlW
  have HLN := Lib.hid hlN; clear hlN
  have HE := Lib.hid hE; clear hE
  have HW := Lib.hid hW; clear hW
  have HN := Lib.hid hN; clear hN
  obtain ⟨K, hK⟩ : ∃ K, K = mirK (.slice CC nC kC) (.slice CW nW kW) (.slice CN nN kN) := ⟨_, rfl⟩
  have HKC : Hid (∀ k, (Value.slice CC nC kC).ownBlock = some k → K k) := fun k h => by rw [hK]; exact .inl h
  have HKW : Hid (∀ k, (Value.slice CW nW kW).ownBlock = some k → K k) := fun k h => by rw [hK]; exact .inr (.inl h)
  have HKN : Hid (∀ k, (Value.slice CN nN kN).ownBlock = some k → K k) := fun k h => by rw [hK]; exact .inr (.inr h)
  rw [← hK]
  have HK := Lib.hid hK; clear hK
  have HLC := Lib.hid oC.len
  have HB := Lib.hid hB; clear hB
  have HBW := Lib.hid hBw; clear hBw
  have HOC := Lib.hid oC; have HOW := Lib.hid oW; have HON := Lib.hid oN; have HR := Lib.hid hr; have H0 := Lib.hid h0
  clear oC oW oN hr h0
  go_enter Tryz.func57, Tryz.ntmps57
  go_upto_if 17 with fail
  refine wp_at fun W0 hW0 => ?_
  have hM0 : MirS K w0 w B w.heap.size rb [.string nm, .slice AE nE cE, .int .i64 gr, .slice AN nN cN, .slice AC nC cC, .slice AW nW cW, .bool mt] [.string nm', vE, .int .i64 gr', .slice CN nN kN, .slice CC nC kC, .slice CW nW kW, .bool mt'] (.slice CC nC kC) (.slice CW nW kW) (.slice CN nN kN) LC ws ns W0 := by
    have hx : Ext w W0 := by rw [hW0]; exact (Ext.refl _).alloc _
    exact ⟨own_ext HOC.out hx, own_ext HOW.out hx, own_ext HON.out hx, by rw [hW0]; exact Blk.new _ _ _, HR.out.ext hx, hx.kept _, H0.out.trans hx⟩
  have HM0 := Lib.hid hM0; clear hM0 hW0
  go_cut [] from 10 (fun wc => MirS K w0 w B w.heap.size rb [.string nm, .slice AE nE cE, .int .i64 gr, .slice AN nN cN, .slice AC nC cC, .slice AW nW cW, .bool mt] [.string nm', vE, .int .i64 gr', .slice CN nN kN, .slice CC nC kC, .slice CW nW kW, .bool mt'] (.slice CC nC kC) (.slice CW nW kW) (.slice CN nN kN) (mirC nE LC) ws ns wc)
  case first =>
    by_cases hcn : nC = nE
    · subst hcn
      have r3 := HM0.out.r.cell 4
      simp only [List.getElem?_cons_succ, List.getElem?_cons_zero] at r3
      go_wp2_with fail
      refine (clone_spots CC nC kC LC _ HM0.out.c.plain.1 HM0.out.c.plain.2 HLC.out (by omega)).mono ?_
      rintro e w1 ⟨v1, rfl, ho1, he1⟩
      obtain ⟨A1, cap1, hv1, _, _, _⟩ := ho1.slice
      rw [HLC.out] at hv1
      subst hv1
      have HO1 := Lib.hid ho1; clear ho1
      clear r3
      go_wp2_with fail
      go_loopw [24] (fun i wr => ∃ k : Nat, k ≤ nC ∧ i = .int .i64 k ∧ MirS K w0 w B w.heap.size rb [.string nm, .slice AE nC cE, .int .i64 gr, .slice AN nN cN, .slice AC nC cC, .slice AW nW cW, .bool mt] [.string nm', vE, .int .i64 gr', .slice CN nN kN, .slice CC nC kC, .slice CW nW kW, .bool mt'] (.slice CC nC kC) (.slice CW nW kW) (.slice CN nN kN) (mixS (mirCF nC LC) LC k) ws ns wr ∧ OwnT 62 wr W0.heap.size (.slice A1 nC cap1) LC) (fun i _ => nC - (intOf i).toNat)
      case atStart => exact ⟨0, Nat.zero_le _, rfl, by rw [mixS_zero]; exact HM0.out.ext he1, HO1.out⟩
      case round =>
        obtain ⟨k, hk, rfl, hm, ho⟩ := hrel
        have HM := Lib.hid hm; have HO := Lib.hid ho; clear hm ho
        by_cases hlt : k < nC
        · obtain ⟨g, hg, hl, c0, c1, f0, f1, hg1, hg2, hset⟩ := HM.out.setC HKC.out HB.out hlt
          subst hg
          have r4 := HM.out.r.cell 4
          simp only [List.getElem?_cons_succ, List.getElem?_cons_zero] at r4
          have hmod : (nC - k + 1) % nC < nC := Nat.mod_lt _ (by omega)
          obtain ⟨g1, hA1, hg1b, hg1l, hg1n, hs1⟩ := HO.out.spots (by omega)
          subst hA1
          obtain ⟨i0, i1⟩ := hs1.at1 (k := (nC - k + 1) % nC) (by rw [hg1n]; exact hmod)
          have HSET := Lib.hid hset; clear hset hs1
          have HL := Lib.hid hl; clear hl
          have HG1 := Lib.hid hg1n; clear hg1n
          obtain ⟨q0, q1, q2⟩ : 0 ≤ ((nC : Int) - k + 1) % nC ∧ ((nC : Int) - k + 1) % nC < nC ∧ (((nC : Int) - k + 1) % nC).toNat = (nC - k + 1) % nC := by
            have e : ((nC : Int) - k + 1) % nC = (((nC - k + 1) % nC : Nat) : Int) := by
              rw [show ((nC : Int) - k + 1) = ((nC - k + 1 : Nat) : Int) from by omega]; simp
            omega
          have hnz : ((nC : Int) == 0) = false := by simp; omega
          have hnk : 0 ≤ (nC : Int) - k + 1 := by omega
          simp only [Nat.zero_add] at i0 i1
          go_wp2_with fail
          go_region
          go_wp2_with fail
          go_roundw
          case rel =>
            have hgw : g < W0.heap.size := by
              rcases HM0.out.c.2 with ⟨e, _⟩ | ⟨g', cap', cur, e, _, hh, _⟩
              · cases e
              · injection e with e1; injection e1 with e1; injection e1 with e1; subst e1; exact heap_lt hh
            have hL : gS LC ((nC - k + 1) % nC) = mirCF nC LC k := rfl
            refine ⟨k + 1, by omega, by go_num, ?_, ?_⟩
            · have h := HSET.out (mirCF nC LC k)
              rw [mixS_succ (by rw [HLC.out]; exact hlt)] at h
              exact h.ext ((Ext.refl _).drew)
            · exact own_ext (own_set (own_set HO.out (by simp [Value.ownBlock]; omega) _) (by simp [Value.ownBlock]; omega) _) ((Ext.refl _).drew)
          case measure => simp [intOf]; omega
        · obtain rfl : k = nC := by omega
          go_wp2_with fail
          go_meet
          case rel =>
            have h := HM.out
            rw [mirC, if_pos HLC.out]
            exact h
    · have hcb : ((nC : Int) == nE) = false := by simp; omega
      go_wp2_with fail
      go_meet
      case rel =>
        rw [mirC, if_neg (by rw [HLC.out]; exact hcn)]
        exact HM0.out
  case rest =>
    have HM1 := Lib.hid hcut; clear hcut
    have p5 := HM1.out.p.cell 5
    simp only [List.getElem?_cons_succ, List.getElem?_cons_zero] at p5
    go_upto_if 47 with fail
    clear p5
    go_cut [] from 10 (fun wd => MirS K w0 w B w.heap.size rb [.string nm, .slice AE nE cE, .int .i64 gr, .slice AN nN cN, .slice AC nC cC, .slice AW nW cW, .bool mt] [.string nm', vE, .int .i64 gr', .slice CN nN kN, .slice CC nC kC, .slice CW nW kW, .bool mt'] (.slice CC nC kC) (.slice CW nW kW) (.slice CN nN kN) (mirC nE LC) (mirW nE ws) ns wd)
    case first =>
      by_cases hcn : nW = nE
      · subst hcn
        go_wp2_with fail
        go_loopw [49] (fun i wr => ∃ k : Nat, k ≤ nW ∧ i = .int .i64 k ∧ MirS K w0 w B w.heap.size rb [.string nm, .slice AE nW cE, .int .i64 gr, .slice AN nN cN, .slice AC nC cC, .slice AW nW cW, .bool mt] [.string nm', vE, .int .i64 gr', .slice CN nN kN, .slice CC nC kC, .slice CW nW kW, .bool mt'] (.slice CC nC kC) (.slice CW nW kW) (.slice CN nN kN) (mirC nW LC) (mixI (mirWF nW ws) ws k) ns wr) (fun i _ => nW - (intOf i).toNat)
        case atStart => exact ⟨0, Nat.zero_le _, rfl, by rw [mixI_zero]; exact HM1.out⟩
        case round =>
          obtain ⟨k, hk, rfl, hm⟩ := hrel
          have HM := Lib.hid hm; clear hm
          by_cases hlt : k < nW
          · obtain ⟨g, hg, hl, c0, f0, hg1, hg2, hset⟩ := HM.out.setI HKW.out HB.out hlt
            subst hg
            have r5 := HM.out.r.cell 5
            have p5 := HM.out.p.cell 5
            simp only [List.getElem?_cons_succ, List.getElem?_cons_zero] at r5 p5
            have hmod : (nW - k) % nW < nW := Nat.mod_lt _ (by omega)
            obtain ⟨b, off, rfl, i0⟩ := (HW.out.ext HM.out.e).g (k := (nW - k) % nW) (by rw [HLW.out]; exact hmod)
            have HSET := Lib.hid hset; clear hset
            have HL := Lib.hid hl; clear hl
            obtain ⟨q0, q1, q2⟩ : 0 ≤ (-(k : Int)) % nW ∧ (-(k : Int)) % nW < nW ∧ ((-(k : Int)) % nW).toNat = (nW - k) % nW := by
              have e := (sub_mod_facts nW k hlt).1
              omega
            have hnz : ((nW : Int) == 0) = false := by simp; omega
            have hnk : 0 ≤ (nW : Int) - k := by omega
            go_wp2_with fail
            go_region
            go_wp2_with fail
            go_roundw
            case rel =>
              refine ⟨k + 1, by omega, by go_num, ?_⟩
              have h := HSET.out (mirWF nW ws k)
              rw [mixI_succ (by rw [HLW.out]; exact hlt)] at h
              exact h.ext ((Ext.refl _).drew)
            case measure => simp [intOf]; omega
          · obtain rfl : k = nW := by omega
            go_wp2_with fail
            go_meet
            case rel =>
              have h := HM.out
              rw [mirW, if_pos HLW.out]
              exact h
      · have hcb : ((nW : Int) == nE) = false := by simp; omega
        go_wp2_with fail
        go_meet
        case rel =>
          rw [mirW, if_neg (by rw [HLW.out]; exact hcn)]
          exact HM1.out
    case rest =>
      have HM2 := Lib.hid hcut; clear hcut
      have p3 := HM2.out.p.cell 3
      simp only [List.getElem?_cons_succ, List.getElem?_cons_zero] at p3
      go_wp2_with fail
      clear p3
      go_loopw [71] (fun i wr => ∃ k : Nat, k ≤ nN ∧ i = .int .i64 k ∧ MirS K w0 w B w.heap.size rb [.string nm, .slice AE nE cE, .int .i64 gr, .slice AN nN cN, .slice AC nC cC, .slice AW nW cW, .bool mt] [.string nm', vE, .int .i64 gr', .slice CN nN kN, .slice CC nC kC, .slice CW nW kW, .bool mt'] (.slice CC nC kC) (.slice CW nW kW) (.slice CN nN kN) (mirC nE LC) (mirW nE ws) (mixS (mirNF es ns) ns k) wr) (fun i _ => nN - (intOf i).toNat)
      case atStart => exact ⟨0, Nat.zero_le _, rfl, by rw [mixS_zero]; exact HM2.out⟩
      case round =>
        obtain ⟨k, hk, rfl, hm⟩ := hrel
        have HM := Lib.hid hm; clear hm
        by_cases hlt : k < nN
        · obtain ⟨b, off, rfl, i0, i1⟩ := (HN.out.ext HM.out.e).g (k := k) (by rw [HLN.out]; exact hlt)
          obtain ⟨a1, ha1⟩ : ∃ a1, a1 = (gS ns k).1 := ⟨_, rfl⟩
          obtain ⟨a2, ha2⟩ : ∃ a2, a2 = (gS ns k).2 := ⟨_, rfl⟩
          rw [← ha1] at i0
          rw [← ha2] at i1
          have HA1 := Lib.hid ha1; have HA2 := Lib.hid ha2; clear ha1 ha2
          by_cases hin : 0 ≤ a1 ∧ a1 < nE
          · obtain ⟨e, he⟩ : ∃ e : Nat, a1 = e := ⟨a1.toNat, by omega⟩
            subst he
            have hen : e < nE := by omega
            have HF : Hid (mirNF es ns k = mirN es e a2) := by
              show mirNF es ns k = mirN es e a2
              unfold mirNF; rw [← HA1.out, ← HA2.out, HLE.out, if_pos hin]; rfl
            clear hin
            obtain ⟨g, hg, hl, c0, c1, f0, f1, hg1, hg2, hset⟩ := HM.out.setN HKN.out HB.out hlt
            subst hg
            clear hset hl c0 c1 f0 f1
            go_wp2_with fail
            refine wp_at fun W1 hW1 => ?_
            have hx1 : Ext wr W1 := by rw [hW1]; exact (Ext.refl _).alloc _
            have v0 : W1.cell? ⟨wr.heap.size, 0, none⟩ = some (.int .i64 (e : Int)) := by rw [hW1]; simp [go_sem]
            have v1 : W1.cell? ⟨wr.heap.size, 1, none⟩ = some (.int .i64 a2) := by rw [hW1]; simp [go_sem]
            have r3 := (HM.out.ext hx1).r.cell 3
            have p1 := (HM.out.ext hx1).p.cell 1
            simp only [List.getElem?_cons_succ, List.getElem?_cons_zero] at r3 p1
            have HM1' := Lib.hid (HM.out.ext hx1)
            clear hW1 i0 i1
            have d0 := fun z : After W1 => After.cell v0 z
            have d1 := fun z : After W1 => After.cell v1 z
            have d2 := fun z : After W1 => After.cell r3 z
            have d3 := fun z : After W1 => After.cell p1 z
            refine region_tail 10 (by kernel_rfl) (by kernel_rfl) ?_
            simp only [List.take_succ_cons, List.take_zero, List.drop_succ_cons, List.drop_zero]
            repeat (go_big_quiet_step ((go_at_call 79; exact after_call (mirrored_any AE nE cE e a2 es _ (HE.out.ext (HM1'.out.e.trans (After.ext _))) HLE.out hen hnE))))
            refine wpQuiet_nil ?_
            rintro w2 ⟨⟨_, he⟩, rfl⟩
            clear d0 d1 d2 d3 v0 v1 r3 p1
            obtain ⟨g', hg', hl, c0, c1, f0, f1, _, _, hset⟩ := (HM1'.out.ext he).setN HKN.out HB.out hlt
            injection hg' with hg'
            injection hg' with hg'
            subst hg'
            have HSET := Lib.hid hset; clear hset
            have HL := Lib.hid hl; clear hl
            go_wp2_with fail
            go_roundw
            case rel =>
              refine ⟨k + 1, by omega, by go_num, ?_⟩
              have h := HSET.out (mirN es e a2)
              rw [← HF.out, mixS_succ (by rw [HLN.out]; exact hlt), HF.out] at h
              exact h
            case measure => simp [intOf]; omega
          · have HF : Hid (mirNF es ns k = gS ns k) := by
              show mirNF es ns k = gS ns k
              unfold mirNF; rw [← HA1.out, HLE.out, if_neg hin]
            have HX := Lib.hid (HM.out.ext ((Ext.refl wr).alloc (.cells #[.int .i64 a1, .int .i64 a2] 95)))
            by_cases hin0 : 0 ≤ a1
            · have hin1 : ¬ a1 < nE := fun h => hin ⟨hin0, h⟩
              clear hin
              go_wp2_with fail
              go_roundw
              case rel =>
                refine ⟨k + 1, by omega, by go_num, ?_⟩
                rw [← mixS_skip HF.out]
                exact HX.out
              case measure => simp [intOf]; omega
            · clear hin
              go_wp2_with fail
              go_roundw
              case rel =>
                refine ⟨k + 1, by omega, by go_num, ?_⟩
                rw [← mixS_skip HF.out]
                exact HX.out
              case measure => simp [intOf]; omega
        · obtain rfl : k = nN := by omega
          go_wp2_with fail
          go_end0
          refine ⟨rfl, HM.out.c, HM.out.i, ?_, HM.out.k, HM.out.e⟩
          have h := HM.out.n
          rw [mirNs, HLN.out]
          exact h
end Go.Proofs.YtkigmpholnfkbaaGreat
