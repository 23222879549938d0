/- outline.Turned -/
import Derived.RegionTactic
import Derived.Laws.BitsAllLaws
import Derived.Laws.BitsLemmas
import Derived.Deep.AppendLies
import Derived.Test.YtkigmpholnfkbaaGreatKOwnI
import Derived.Test.YtkigmpholnfkbaaGreatKTurnD
/- slices.Reverse over spots, in place, on a row of the call's own -/
namespace Go.Proofs.YtkigmpholnfkbaaGreat
open Go.RowKit
def RowS (w : World) (g : Nat) (L : List Spot) (R : List Value) : Prop := w.heap[g]? = some (.cells (scells L ++ R).toArray 62 (0, 0))
theorem RowS.cell {w : World} {g : Nat} {L : List Spot} {R : List Value} (h : RowS w g L R) {k : Nat} (hk : k < L.length) :
    w.cell? ⟨g, k * 2, none⟩ = some (.int .i64 (gS L k).1) ∧ w.cell? ⟨g, k * 2 + 1, none⟩ = some (.int .i64 (gS L k).2) := by
  unfold RowS at h
  have e0 : (scells L ++ R)[k * 2]? = some (.int .i64 (gS L k).1) := by
    rw [List.getElem?_append_left (by rw [scells_length]; omega), scells_even, List.getElem?_eq_getElem hk, gS_eq hk]; rfl
  have e1 : (scells L ++ R)[k * 2 + 1]? = some (.int .i64 (gS L k).2) := by
    rw [List.getElem?_append_left (by rw [scells_length]; omega), scells_odd, List.getElem?_eq_getElem hk, gS_eq hk]; rfl
  simp only [World.cell?, h, Option.isSome_none, Bool.false_eq_true, if_false, List.getElem?_toArray, e0, e1]
  exact ⟨trivial, trivial⟩
theorem RowS.frozen {w : World} {g : Nat} {L : List Spot} {R : List Value} (h : RowS w g L R) (j : Nat) : w.frozen? ⟨g, j, none⟩ = false := by
  unfold RowS at h
  simp [World.frozen?, h]
theorem RowS.set {w : World} {g : Nat} {L : List Spot} {R : List Value} (h : RowS w g L R) {k : Nat} (hk : k < L.length) (s : Spot) : RowS ((w.setCell ⟨g, k * 2, none⟩ (.int .i64 s.1)).setCell ⟨g, k * 2 + 1, none⟩ (.int .i64 s.2)) g (L.set k s) R := by
  unfold RowS at h ⊢
  rw [← scells_set]
  have e : ((scells L).set (k * 2) (.int .i64 s.1)).set (k * 2 + 1) (.int .i64 s.2) ++ R = ((scells L ++ R).set (k * 2) (.int .i64 s.1)).set (k * 2 + 1) (.int .i64 s.2) := by
    rw [List.set_append_left _ _ (by rw [scells_length]; omega), List.set_append_left _ _ (by rw [List.length_set, scells_length]; omega)]
  rw [e]
  simp [World.setCell, Array.getElem?_modify, h]
/- after k rounds -/
def revK (L : List Spot) (k : Nat) : List Spot := (List.range L.length).map fun p => if p < k ∨ L.length - k ≤ p then gS L (L.length - 1 - p) else gS L p
theorem revK_len (L : List Spot) (k : Nat) : (revK L k).length = L.length := by simp [revK]
theorem revK_get {L : List Spot} {k p : Nat} (hp : p < L.length) : gS (revK L k) p = if p < k ∨ L.length - k ≤ p then gS L (L.length - 1 - p) else gS L p := by
  simp [gS, revK, hp]
theorem revK_zero (L : List Spot) : revK L 0 = L := list_ext_gS (revK_len L 0) fun p hp => by
  rw [revK_len] at hp
  rw [revK_get hp, if_neg (by omega)]
theorem revK_done {L : List Spot} {k : Nat} (h : L.length ≤ 2 * k + 1) (hk : k ≤ L.length) : revK L k = L.reverse := list_ext_gS (by rw [revK_len, List.length_reverse]) fun p hp => by
  rw [revK_len] at hp
  rw [revK_get hp]
  have e : gS L.reverse p = gS L (L.length - 1 - p) := by
    rw [gS_eq (by simpa using hp), List.getElem_reverse, gS_eq (by omega)]
  rw [e]
  split
  · rfl
  · rename_i h1
    congr 1; omega
theorem revK_succ {L : List Spot} {k : Nat} (h : k < L.length - 1 - k) : ((revK L k).set k (gS (revK L k) (L.length - 1 - k))).set (L.length - 1 - k) (gS (revK L k) k) = revK L (k + 1) :=
  list_ext_gS (by simp [revK_len]) fun p hp => by
    simp [revK_len] at hp
    rw [gS_set (by simp [revK_len]; omega), gS_set (by rw [revK_len]; omega), revK_get (k := k + 1) hp, revK_get (p := k) (by omega), revK_get (p := L.length - 1 - k) (by omega), revK_get hp]
    by_cases h1 : p = L.length - 1 - k
    · rw [if_pos h1, if_neg (by omega), if_pos (by omega)]; congr 1; omega
    · rw [if_neg h1]
      by_cases h2 : p = k
      · rw [if_pos h2, if_neg (by omega), if_pos (by omega)]; congr 1; omega
      · rw [if_neg h2]
        by_cases h3 : p < k ∨ L.length - k ≤ p
        · rw [if_pos h3, if_pos (by omega)]
        · rw [if_neg h3, if_neg (by omega)]

/- only block g has turned -/
def Only (g : Nat) (w w' : World) : Prop := w.grownBy w' (some g)
theorem Only.refl (g : Nat) (w : World) : Only g w w := World.grownBy.refl w _
theorem Only.drewN {g : Nat} {a w : World} (h : Only g a w) (n : Nat) : Only g a (w.drewN n) := ⟨h.os, h.tape, h.output, h.size, h.block⟩
theorem Only.drew {g : Nat} {a w : World} (h : Only g a w) : Only g a w.drew := ⟨h.os, h.tape, h.output, h.size, h.block⟩
theorem Only.setCell {g : Nat} {a w : World} (h : Only g a w) (j : Nat) (u : Value) : Only g a (w.setCell ⟨g, j, none⟩ u) :=
  ⟨h.os, h.tape, h.output, by simpa [World.setCell] using h.size, fun i hi hne => (Below.heap_setCell w ⟨g, j, none⟩ u i (by rintro rfl; exact hne rfl)).trans (h.block i hi hne)⟩
set_option maxRecDepth 100000 in
set_option maxHeartbeats 1600000 in
theorem reverse_any (g n c : Nat) (L : List Spot) (R : List Value) (w : World) (hR : RowS w g L R) (hl : L.length = n) (hn : n ≤ 1000000) :
    Calls Tryz.prog 77 #[.slice (some ⟨g, 0, none⟩) n c] w fun e w' => e = .returned (.tuple #[]) ∧ RowS w' g L.reverse R ∧ Only g w w' := by
  have HL := Lib.hid hl; clear hl
  have HR := Lib.hid hR; clear hR
  go_enter Tryz.func77, Tryz.ntmps77
  go_wp2_with fail
  go_loopw [2, 3] (fun i j wr => ∃ k : Nat, 2 * k ≤ n + 1 ∧ i = .int .i64 k ∧ j = .int .i64 ((n : Int) - 1 - k) ∧ RowS wr g (revK L k) R ∧ Only g w wr) (fun i _ _ => n - (intOf i).toNat)
  case atStart => exact ⟨0, by omega, rfl, by simp, by rw [revK_zero]; exact HR.out, Only.refl _ _⟩
  case round =>
    obtain ⟨k, hk, rfl, rfl, hB, ho⟩ := hrel
    have HB := Lib.hid hB; clear hB
    by_cases hlt : k < n - 1 - k
    · have hlt' : (k : Int) < (n : Int) - 1 - k := by omega
      obtain ⟨m, hm⟩ : ∃ m, n = m + 1 + k := ⟨n - 1 - k, by omega⟩
      subst hm
      have hjm : (((m + 1 + k : Nat) : Int) - 1 - k) = m := by omega
      rw [hjm] at hlt' ⊢
      obtain ⟨c0, c1⟩ := HB.out.cell (k := k) (by rw [revK_len, HL.out]; omega)
      obtain ⟨d0, d1⟩ := HB.out.cell (k := m) (by rw [revK_len, HL.out]; omega)
      have f0 := HB.out.frozen (k * 2)
      have f1 := HB.out.frozen (k * 2 + 1)
      have f2 := HB.out.frozen (m * 2)
      have f3 := HB.out.frozen (m * 2 + 1)
      have hkm : k < m := by omega
      clear hjm
      go_wp2_with fail
      go_region
      go_wp2_with fail
      go_roundw
      case rel =>
        refine ⟨k + 1, by omega, by go_num, by congr 1; omega, ?_, ?_⟩
        · have h := (HB.out.set (k := k) (by rw [revK_len, HL.out]; omega) (gS (revK L k) m)).set (k := m) (by rw [List.length_set, revK_len, HL.out]; omega) (gS (revK L k) k)
          have e : L.length - 1 - k = m := by rw [HL.out]; omega
          have h2 := revK_succ (L := L) (k := k) (by rw [e]; exact hkm)
          rw [e] at h2
          rw [h2] at h
          exact h
        · first
            | exact (((ho.drew.setCell _ _).setCell _ _).setCell _ _).setCell _ _
            | exact ((((ho.setCell _ _).setCell _ _).setCell _ _).setCell _ _).drew
      case measure => simp [intOf]; omega
    · have hlt' : ¬ (k : Int) < (n : Int) - 1 - k := by omega
      go_wp2_with fail
      go_end0
      refine ⟨rfl, ?_, ho⟩
      rw [← revK_done (L := L) (k := k) (by rw [HL.out]; omega) (by rw [HL.out]; omega)]
      exact HB.out
theorem reverse_empty (A : Option Addr) (c : Nat) (w : World) :
    Calls Tryz.prog 77 #[.slice A 0 c] w fun e w' => e = .returned (.tuple #[]) ∧ w = w' := by
  go_enter Tryz.func77, Tryz.ntmps77
  go_wp2_with fail
  go_loop [2, 3] (fun i j => i = .int .i64 0 ∧ j = .int .i64 (-1)) (fun _ _ => 0)
  case atStart => exact ⟨rfl, rfl⟩
  case round =>
    obtain ⟨rfl, rfl⟩ := hrel
    go_wp2_with fail
    go_end0
    exact ⟨rfl, rfl⟩
theorem OwnS.row {w : World} {base : Nat} {v : Value} {L : List Spot} (h : OwnS w base v L) :
    (v = .slice none 0 0 ∧ L = []) ∨ ∃ g cap R, v = .slice (some ⟨g, 0, none⟩) L.length cap ∧ base ≤ g ∧ g < w.heap.size ∧ RowS w g L R ∧ L.length ≤ cap ∧ cap ≤ 9223372036854775807 ∧ L.length * 2 + R.length = cap * 2 := by
  rcases h.2 with ⟨rfl, h0⟩ | ⟨g, cap, cur, rfl, hb, hh, hn, hm, hs, ht⟩
  · exact .inl ⟨rfl, List.eq_nil_of_length_eq_zero h0⟩
  · refine .inr ⟨g, cap, cur.toList.drop (L.length * 2), rfl, hb, ?_, ?_, hn, hm, ?_⟩
    · rcases Nat.lt_or_ge g w.heap.size with hl | hl
      · exact hl
      · rw [Array.getElem?_eq_none hl] at hh; cases hh
    · unfold RowS; rw [← ht, List.take_append_drop]; exact hh
    · have hl : cur.toList.length = cap * 2 := by simpa using hs
      rw [List.length_drop]; omega
theorem RowS.own {w : World} {g base cap : Nat} {L : List Spot} {R : List Value} (h : RowS w g L R) (hb : base ≤ g) (hn : L.length ≤ cap) (hm : cap ≤ 9223372036854775807) (hs : L.length * 2 + R.length = cap * 2) : OwnS w base (.slice (some ⟨g, 0, none⟩) L.length cap) L :=
  ⟨scells_length L, .inr ⟨g, cap, (scells L ++ R).toArray, rfl, hb, h, hn, hm, by simp [scells_length]; exact hs, by simp [← scells_length]⟩⟩
theorem Ext.only {a b c : World} {g : Nat} (h : Ext a b) (ho : Only g b c) (hg : a.heap.size ≤ g) : Ext a c := h.grown ho (fun k hk => by injection hk with hk; omega)
/- Reverse, whatever the row is -/
def RetRev (w : World) (base : Nat) (v : Value) (L : List Spot) (e : Ending) (w' : World) : Prop := e = .returned (.tuple #[]) ∧ OwnS w' base v L.reverse ∧ ∀ a : World, a.heap.size ≤ base → Ext a w → Ext a w'
theorem reverse_own (base : Nat) (v : Value) (L : List Spot) (w : World) (h : OwnS w base v L) (hn : L.length ≤ 1000000) :
    Calls Tryz.prog 77 #[v] w (RetRev w base v L) := by
  rcases h.row with ⟨rfl, rfl⟩ | ⟨g, cap, R, rfl, hb, _, hr, h1, h2, h3⟩
  · exact (reverse_empty none 0 w).mono fun e w' ⟨he, hw⟩ => by subst hw; exact ⟨he, OwnS.nil _ _, fun _ _ h => h⟩
  · refine (reverse_any g _ cap L R w hr rfl hn).mono fun e w' ⟨he, hr', ho⟩ => ⟨he, ?_, fun a ha hx => hx.only ho (by omega)⟩
    have h4 := hr'.own (base := base) (cap := cap) hb (by simpa using h1) h2 (by simpa using h3)
    rwa [List.length_reverse] at h4
end Go.Proofs.YtkigmpholnfkbaaGreat
/- turn.Apply -/
namespace Go.Proofs.YtkigmpholnfkbaaGreat
open Go.RowKit
theorem and3 (q : Int) : bits .and .i64 q 3 = q % 4 := by
  show IntKind.i64.wrap ((BitVec.ofInt 64 q &&& BitVec.ofInt 64 3).toNat : Int) = q % 4
  have h3 : (BitVec.ofInt 64 3).toNat = 2 ^ 2 - 1 := by decide
  rw [BitVec.toNat_and, h3, Nat.and_two_pow_sub_one_eq_mod, BitVec.toNat_ofInt, IntKind.wrap_i64]
  omega
theorem quarts_succ (n : Nat) (s : Spot) : quarts (n + 1) s = quart (quarts n s) := rfl
set_option maxRecDepth 100000 in
set_option maxHeartbeats 800000 in
theorem apply_f (q : Int) (s : Spot) (w : World) :
    Calls Tryz.prog 54 #[TV false q, SV s] w fun e w' => e = .returned (SV (applyT false q s)) ∧ Ext w w' := by
  obtain ⟨x, y⟩ := s
  have ha := and3 q
  obtain ⟨r, hr⟩ : ∃ r : Nat, q % 4 = r := ⟨(q % 4).toNat, by omega⟩
  have hr4 : r < 4 := by omega
  have HR : Hid ((q % 4).toNat = r) := by show (q % 4).toNat = r; omega
  rw [hr] at ha
  clear hr
  obtain ⟨s0, hs0⟩ : ∃ s0, s0 = flipS false (x, y) := ⟨_, rfl⟩
  have HS0 := Lib.hid hs0; clear hs0
  go_enter Tryz.func54, Tryz.ntmps54
  go_wp2_with fail
  clear ha
  go_loopw [14] (fun i wr => ∃ k : Nat, k ≤ r ∧ i = .int .i64 k ∧ BlkS wr (w.heap.size + 1) [quarts k s0] ∧ BlkS wr (w.heap.size + 1 + 1) [(0, 0)] ∧ Ext w wr) (fun i _ => r - (intOf i).toNat)
  case atStart =>
    refine ⟨0, Nat.zero_le _, rfl, ?_, ?_, (((Ext.refl w).alloc _).alloc _).alloc _⟩
    · rw [HS0.out]
      have h := (BlkS.new (w.alloc (.cells #[.bool false, .int .i64 q] 66)) [quarts 0 (flipS false (x, y))]).ext ((Ext.refl _).alloc (.cells #[.int .i64 0, .int .i64 0] 62))
      simpa [scells, quarts, flipS] using h
    · have h := BlkS.new ((w.alloc (.cells #[.bool false, .int .i64 q] 66)).alloc (.cells (scells [flipS false (x, y)]).toArray 62)) [(0, 0)]
      simpa [scells, flipS] using h
  case round =>
    obtain ⟨k, hk, rfl, hB, hZ, hx⟩ := hrel
    have c0 : wr.cell? ⟨w.heap.size + 1, 0, none⟩ = some (.int .i64 (quarts k s0).1) := by rw [hB.cell]; rfl
    have c1 : wr.cell? ⟨w.heap.size + 1, 1, none⟩ = some (.int .i64 (quarts k s0).2) := by rw [hB.cell]; rfl
    have f0 := hB.frozen 0
    have f1 := hB.frozen 1
    have z0 : wr.cell? ⟨w.heap.size + 1 + 1, 0, none⟩ = some (.int .i64 0) := by rw [hZ.cell]; rfl
    have z1 : wr.cell? ⟨w.heap.size + 1 + 1, 1, none⟩ = some (.int .i64 0) := by rw [hZ.cell]; rfl
    have g0 := hZ.frozen 0
    have g1 := hZ.frozen 1
    have HB := Lib.hid hB; have HZ := Lib.hid hZ; clear hB hZ
    by_cases hlt : k < r
    · go_wp2_with fail
      go_roundw
      case rel =>
        refine ⟨k + 1, by omega, by go_num, ?_, ?_, ?_⟩
        · have h := HB.out.set 0 (quart (quarts k s0))
          simpa [quarts_succ, quart] using h
        · exact (HZ.out.other (by simp) _).other (by simp) _
        · exact (hx.setCell (by simp) _).setCell (by simp) _
      case measure => simp [intOf]; omega
    · go_wp2_with fail
      obtain rfl : k = r := by omega
      refine bodyPost_ret (v := SV (applyT false q (x, y))) (by
        have e : applyT false q (x, y) = quarts k s0 := by unfold applyT; rw [HR.out, HS0.out]
        rw [e]
        simp [results, Tryz.results54, go_sem, z0, z1]) rfl ⟨rfl, ?_⟩
      exact (hx.setCell (by simp; omega) _).setCell (by simp; omega) _
set_option maxRecDepth 100000 in
set_option maxHeartbeats 800000 in
theorem apply_t (q : Int) (s : Spot) (w : World) :
    Calls Tryz.prog 54 #[TV true q, SV s] w fun e w' => e = .returned (SV (applyT true q s)) ∧ Ext w w' := by
  obtain ⟨x, y⟩ := s
  have ha := and3 q
  obtain ⟨r, hr⟩ : ∃ r : Nat, q % 4 = r := ⟨(q % 4).toNat, by omega⟩
  have hr4 : r < 4 := by omega
  have HR : Hid ((q % 4).toNat = r) := by show (q % 4).toNat = r; omega
  rw [hr] at ha
  clear hr
  obtain ⟨s0, hs0⟩ : ∃ s0, s0 = flipS true (x, y) := ⟨_, rfl⟩
  have HS0 := Lib.hid hs0; clear hs0
  go_enter Tryz.func54, Tryz.ntmps54
  go_wp2_with fail
  clear ha
  go_loopw [14] (fun i wr => ∃ k : Nat, k ≤ r ∧ i = .int .i64 k ∧ BlkS wr (w.heap.size + 1) [quarts k s0] ∧ BlkS wr (w.heap.size + 1 + 1) [(0, 0)] ∧ Ext w wr) (fun i _ => r - (intOf i).toNat)
  case atStart =>
    refine ⟨0, Nat.zero_le _, rfl, ?_, ?_, (((Ext.refl w).alloc _).alloc _).alloc _⟩
    · rw [HS0.out]
      have h := (BlkS.new (w.alloc (.cells #[.bool true, .int .i64 q] 66)) [quarts 0 (flipS true (x, y))]).ext ((Ext.refl _).alloc (.cells #[.int .i64 0, .int .i64 0] 62))
      simpa [scells, quarts, flipS] using h
    · have h := BlkS.new ((w.alloc (.cells #[.bool true, .int .i64 q] 66)).alloc (.cells (scells [flipS true (x, y)]).toArray 62)) [(0, 0)]
      simpa [scells, flipS] using h
  case round =>
    obtain ⟨k, hk, rfl, hB, hZ, hx⟩ := hrel
    have c0 : wr.cell? ⟨w.heap.size + 1, 0, none⟩ = some (.int .i64 (quarts k s0).1) := by rw [hB.cell]; rfl
    have c1 : wr.cell? ⟨w.heap.size + 1, 1, none⟩ = some (.int .i64 (quarts k s0).2) := by rw [hB.cell]; rfl
    have f0 := hB.frozen 0
    have f1 := hB.frozen 1
    have z0 : wr.cell? ⟨w.heap.size + 1 + 1, 0, none⟩ = some (.int .i64 0) := by rw [hZ.cell]; rfl
    have z1 : wr.cell? ⟨w.heap.size + 1 + 1, 1, none⟩ = some (.int .i64 0) := by rw [hZ.cell]; rfl
    have g0 := hZ.frozen 0
    have g1 := hZ.frozen 1
    have HB := Lib.hid hB; have HZ := Lib.hid hZ; clear hB hZ
    by_cases hlt : k < r
    · go_wp2_with fail
      go_roundw
      case rel =>
        refine ⟨k + 1, by omega, by go_num, ?_, ?_, ?_⟩
        · have h := HB.out.set 0 (quart (quarts k s0))
          simpa [quarts_succ, quart] using h
        · exact (HZ.out.other (by simp) _).other (by simp) _
        · exact (hx.setCell (by simp) _).setCell (by simp) _
      case measure => simp [intOf]; omega
    · go_wp2_with fail
      obtain rfl : k = r := by omega
      refine bodyPost_ret (v := SV (applyT true q (x, y))) (by
        have e : applyT true q (x, y) = quarts k s0 := by unfold applyT; rw [HR.out, HS0.out]
        rw [e]
        simp [results, Tryz.results54, go_sem, z0, z1]) rfl ⟨rfl, ?_⟩
      exact (hx.setCell (by simp; omega) _).setCell (by simp; omega) _
theorem apply_any (f : Bool) (q : Int) (s : Spot) (w : World) :
    Calls Tryz.prog 54 #[TV f q, SV s] w fun e w' => e = .returned (SV (applyT f q s)) ∧ Ext w w' := by
  cases f
  · exact apply_f q s w
  · exact apply_t q s w
end Go.Proofs.YtkigmpholnfkbaaGreat
namespace Go.Proofs.YtkigmpholnfkbaaGreat
open Go.RowKit
def RetE (w : World) (es : List Edge) (e : Ending) (w' : World) : Prop := ∃ v, e = .returned v ∧ OwnE w' w.heap.size v es ∧ Ext w w'
set_option maxRecDepth 100000 in
set_option maxHeartbeats 3200000 in
theorem oturned_false (A : Option Addr) (n c : Nat) (q : Int) (l : List Edge) (w : World) (ha : EdgesAt w A l) (hl : l.length = n) (hn : n ≤ 1000) (hlen : ∀ k, k < n → (gE l k).2.length ≤ 1000) :
    Calls Tryz.prog 53 #[.slice A n c, TV false q] w (RetE w (turnE false q l)) := by
  have HL := Lib.hid hl; clear hl
  have HA := Lib.hid ha; clear ha
  have HN := Lib.hid hlen; clear hlen
  obtain ⟨i0, hi0, hz0, hz1, hz2⟩ := info_parts spot_info
  obtain ⟨e0, he0', hy0, hy1, hy2⟩ := info_parts edge_info
  go_enter Tryz.func53, Tryz.ntmps53
  go_wp2_with fail
  refine wp_at fun W0 hW0 => ?_
  have hx0 : Ext w W0 := by rw [hW0]; exact (Ext.refl _).alloc _
  have t0 : W0.cell? ⟨w.heap.size, 0, none⟩ = some (.bool false) := by rw [hW0]; simp [go_sem]
  have t1 : W0.cell? ⟨w.heap.size, 1, none⟩ = some (.int .i64 q) := by rw [hW0]; simp [go_sem]
  obtain ⟨tb, htb⟩ : ∃ tb, tb = w.heap.size := ⟨_, rfl⟩
  rw [← htb] at t0 t1
  rw [← htb]
  have htl : tb < W0.heap.size := cell_lt t0
  have HTB := Lib.hid htb; clear htb hW0
  go_loopw [5, 13] (fun v i wr => ∃ k : Nat, k ≤ n ∧ i = .int .i64 k ∧ OwnE wr (tb + 1) v ((turnE false q l).take k) ∧ wr.cell? ⟨tb, 0, none⟩ = some (.bool false) ∧ wr.cell? ⟨tb, 1, none⟩ = some (.int .i64 q) ∧ Ext w wr) (fun _ i _ => n - (intOf i).toNat)
  case atStart => exact ⟨0, Nat.zero_le _, rfl, OwnE.nil _ _, t0, t1, hx0⟩
  case round =>
    clear t0 t1 hx0 htl
    obtain ⟨k, hk, rfl, ho, t0, t1, hx⟩ := hrel
    have HO := Lib.hid ho; clear ho
    have htl : tb < wr.heap.size := cell_lt t0
    by_cases hlt : k < n
    · have hkl : k < l.length := by rw [HL.out]; exact hlt
      obtain ⟨b, off, L, cL, rfl, hc0, hc1, hs, hcl, hcm⟩ := (HA.out.ext hx).g (k := k) (by rw [HL.out]; exact hlt)
      have hll := HN.out (k) (by omega)
      have HS := Lib.hid hs; clear hs
      obtain ⟨ln, hln⟩ : ∃ ln, ln = (gE l (k)).2 := ⟨_, rfl⟩
      rw [← hln] at hc1 HS hll hcl
      have HLN := Lib.hid hln; clear hln
      have hbl : b < wr.heap.size := cell_lt hc0
      go_wp2_with fail
      refine wp_at fun W1 hW1 => ?_
      have hx1 : Ext wr W1 := by rw [hW1]; exact (Ext.refl _).alloc _
      have b0 : W1.cell? ⟨wr.heap.size, 0, none⟩ = some (.string (gE l (k)).1) := by rw [hW1]; simp [go_sem]
      have t0' := hx1.cell t0
      have t1' := hx1.cell t1
      have hx1w : tb + 1 ≤ W1.heap.size := Nat.le_trans htl hx1.size
      clear hW1 hc0 hc1 hbl
      obtain ⟨bx, hbx⟩ : ∃ bx, bx = wr.heap.size := ⟨_, rfl⟩
      rw [← hbx] at b0
      rw [← hbx]
      clear hbx
      obtain ⟨EL, hEL⟩ : ∃ EL, EL = (turnE false q l).take k := ⟨_, rfl⟩
      have hoE := HO.out
      rw [← hEL] at hoE
      obtain ⟨ps, hps, hor⟩ := hoE
      have HPS := Lib.hid hps; have HOR := Lib.hid hor; clear hps hor
      have hELl : EL.length ≤ 1000 := by rw [hEL, List.length_take]; omega
      have HEL := Lib.hid hEL; clear hEL
      go_loopw [8, 35] (fun v i wq => ∃ j : Nat, j ≤ ln.length ∧ i = .int .i64 j ∧ OwnS wq W1.heap.size v ((ln.take j).map (applyT false q)) ∧ Ext W1 wq) (fun _ i _ => ln.length - (intOf i).toNat)
      case atStart => exact ⟨0, Nat.zero_le _, rfl, OwnS.nil _ _, Ext.refl _⟩
      case round =>
        obtain ⟨wq, rfl⟩ : ∃ wq : World, wq = wr := ⟨_, rfl⟩
        obtain ⟨j, hj, rfl, ho2, hy⟩ := hrel
        obtain ⟨LK, hLK⟩ : ∃ LK, LK = (ln.take j).map (applyT false q) := ⟨_, rfl⟩
        rw [← hLK] at ho2
        have hLKl : LK.length ≤ 1000 := by rw [hLK, List.length_map, List.length_take]; omega
        have HLKE := Lib.hid hLK; clear hLK
        have HO2 := Lib.hid ho2; clear ho2
        have r0 := hy.cell t0'
        have r1 := hy.cell t1'
        have hsq : W1.heap.size ≤ wq.heap.size := hy.size
        by_cases hjl : j < ln.length
        · obtain ⟨bs, os, rfl, s0, s1⟩ := ((HS.out.ext hx1).ext hy).g hjl
          have htq : tb < wq.heap.size := cell_lt r0
          go_wp2_with fail
          refine (apply_any false q (gS ln j) _).mono ?_
          rintro e w2 ⟨rfl, he2⟩
          have hx2 : Ext wq w2 := ((Ext.refl _).alloc _).trans he2
          clear he2 s0 s1
          go_wp2_with (at_builtin; refine wpList_append_own _ rfl (.tmp 39) (.tmp 43) 50 rfl W1.heap.size 62 i0 (.agg #[.int .i64 0, .int .i64 0]) 2 16 Tryz.underlying50 hi0 hz0 hz1 hz2 rfl (by decide) u8 LK.length (scells LK) rfl (World.ownsRow.alloc (own_ext HO2.out hx2) _) ⟨w2.heap.size, 0, none⟩ 1 1 [.int .i64 (applyT false q (gS ln j)).1, .int .i64 (applyT false q (gS ln j)).2] rfl ?c1 ?c2 ?c3 ?c4 ?c5 ?c6 ?_)
          case c1 => rfl
          case c2 => exact World.news_of_block (cs := #[.int .i64 (applyT false q (gS ln j)).1, .int .i64 (applyT false q (gS ln j)).2]) (t := 62) (fr := (0, 0)) (heap_alloc_new w2 _)
          case c3 => simp [Value.oneCell']
          case c4 => unfold maxLen; omega
          case c5 => omega
          case c6 => have := hx2.size; simp; omega
          intro v' w4 hown' hgrow _
          have hO' : OwnS w4 W1.heap.size v' ((ln.take (j + 1)).map (applyT false q)) := by
            rw [map_take_succ hjl, ← HLKE.out]
            unfold OwnS
            rw [scells_append, List.length_append]
            exact hown'
          have hx' : Ext W1 w4 := ((hy.trans hx2).alloc _).grown hgrow (fun g hg => (World.ownsRow.lt HO2.out g hg).1)
          have HO' := Lib.hid hO'; clear hO' hown' hgrow
          go_wp2_with fail
          go_roundw
          case rel => exact ⟨j + 1, by omega, by go_num, HO'.out, hx'⟩
          case measure => simp [intOf]; omega
        · clear r1
          have hj' : ln.length ≤ j := by omega
          have hO3 : OwnS wq W1.heap.size u8 (turnL false q ln) := by
            have h := HO2.out
            rw [HLKE.out, List.take_of_length_le (by omega)] at h
            unfold turnL; rw [if_neg (by decide)]; exact h
          have HO3 := Lib.hid hO3
          obtain ⟨AL, capL, rfl, _, _, _⟩ := hO3.slice
          clear hO3 HO2
          have hxz : Ext W1 wq := hy
          have y0 := hxz.cell b0
          go_wp2_with (at_builtin; refine wpList_append_own _ rfl (.tmp 50) (.tmp 55) 48 rfl (tb + 1) 57 e0 (.agg #[.string ⟨#[]⟩, .slice none 0 0]) 2 40 Tryz.underlying48 he0' hy0 hy1 hy2 rfl (by decide) u5 EL.length (ecells ps) rfl (World.ownsRow.alloc (own_ext HOR.out (hx1.trans hxz)) _) ⟨wq.heap.size, 0, none⟩ 1 1 [.string (gE l (k)).1, .slice AL (turnL false q ln).length capL] rfl ?c1 ?c2 ?c3 ?c4 ?c5 ?c6 ?_)
          case c1 => rfl
          case c2 => exact World.news_of_block (cs := #[.string (gE l (k)).1, .slice AL (turnL false q ln).length capL]) (t := 57) (fr := (0, 0)) (heap_alloc_new wq _)
          case c3 => simp [Value.oneCell']
          case c4 => unfold maxLen; omega
          case c5 => omega
          case c6 => have := hxz.size; simp; omega
          intro v' w4 hown' hgrow _
          have hch := (hx1.trans hxz).alloc (.cells #[.string (gE l (k)).1, .slice AL (turnL false q ln).length capL] 57)
          have hor1 := own_ext HOR.out hch
          have hO' : OwnE w4 (tb + 1) v' ((turnE false q l).take (k + 1)) := by
            rw [turnE_take hkl, ← HEL.out]
            have e : turnAt false q l k = ((gE l (k)).1, turnL false q ln) := by unfold turnAt turnI; rw [HLN.out, HL.out]; simp
            rw [e]
            refine ⟨ps ++ [((gE l (k)).1, .slice AL (turnL false q ln).length capL)], ((HPS.out.ext hch).grown hor1 (by decide) hgrow).snoc ⟨rfl, ?_⟩, ?_⟩
            · exact ((HO3.out.ext ((Ext.refl _).alloc _)).grown hor1 (by decide) hgrow).base_le hx1w
            · rw [ecells_append, List.length_append]; exact hown'
          have hx' : Ext w w4 := (hx.trans hch).grown hgrow (fun g hg => by have h1 := (World.ownsRow.lt HOR.out g hg).1; have h2 := HTB.out; omega)
          have hne : ∀ j, (w4.cell? ⟨tb, j, none⟩) = W1.cell? ⟨tb, j, none⟩ := fun j => by
            have hl1 : tb < W1.heap.size := hx1w
            have hl2 : tb < wq.heap.size := Nat.lt_of_lt_of_le hl1 hxz.size
            have h1 := World.cell?_of_block (w := wq.alloc _) (a := ⟨tb, j, none⟩) (hgrow.block tb (by simp; omega) (fun e => by have := (World.ownsRow.lt HOR.out _ e.symm).1; omega))
            rw [h1, World.cell?_alloc_lt _ _ _ hl2]
            exact hxz.cellq hl1
          have z0 : w4.cell? ⟨tb, 0, none⟩ = some (.bool false) := (hne 0).trans t0'
          have z1 : w4.cell? ⟨tb, 1, none⟩ = some (.int .i64 q) := (hne 1).trans t1'
          have HO' := Lib.hid hO'; clear hO' hown' hgrow hne
          go_wp2_with fail
          go_roundw
          case rel => exact ⟨k + 1, by omega, by go_num, HO'.out, z0, z1, hx'⟩
          case measure => simp [intOf]; omega
    · go_wp2_with fail
      go_ret
      refine ⟨_, rfl, ?_, hx⟩
      have h := HO.out
      rw [List.take_of_length_le (by rw [turnE_len, HL.out]; omega)] at h
      exact h.base_le (by have := HTB.out; omega)

set_option maxRecDepth 100000 in
set_option maxHeartbeats 3200000 in
theorem oturned_true (A : Option Addr) (n c : Nat) (q : Int) (l : List Edge) (w : World) (ha : EdgesAt w A l) (hl : l.length = n) (hn : n ≤ 1000) (hlen : ∀ k, k < n → (gE l k).2.length ≤ 1000) :
    Calls Tryz.prog 53 #[.slice A n c, TV true q] w (RetE w (turnE true q l)) := by
  have HL := Lib.hid hl; clear hl
  have HA := Lib.hid ha; clear ha
  have HN := Lib.hid hlen; clear hlen
  obtain ⟨i0, hi0, hz0, hz1, hz2⟩ := info_parts spot_info
  obtain ⟨e0, he0', hy0, hy1, hy2⟩ := info_parts edge_info
  go_enter Tryz.func53, Tryz.ntmps53
  go_wp2_with fail
  refine wp_at fun W0 hW0 => ?_
  have hx0 : Ext w W0 := by rw [hW0]; exact (Ext.refl _).alloc _
  have t0 : W0.cell? ⟨w.heap.size, 0, none⟩ = some (.bool true) := by rw [hW0]; simp [go_sem]
  have t1 : W0.cell? ⟨w.heap.size, 1, none⟩ = some (.int .i64 q) := by rw [hW0]; simp [go_sem]
  obtain ⟨tb, htb⟩ : ∃ tb, tb = w.heap.size := ⟨_, rfl⟩
  rw [← htb] at t0 t1
  rw [← htb]
  have htl : tb < W0.heap.size := cell_lt t0
  have HTB := Lib.hid htb; clear htb hW0
  go_loopw [5, 13] (fun v i wr => ∃ k : Nat, k ≤ n ∧ i = .int .i64 k ∧ OwnE wr (tb + 1) v ((turnE true q l).take k) ∧ wr.cell? ⟨tb, 0, none⟩ = some (.bool true) ∧ wr.cell? ⟨tb, 1, none⟩ = some (.int .i64 q) ∧ Ext w wr) (fun _ i _ => n - (intOf i).toNat)
  case atStart => exact ⟨0, Nat.zero_le _, rfl, OwnE.nil _ _, t0, t1, hx0⟩
  case round =>
    clear t0 t1 hx0 htl
    obtain ⟨k, hk, rfl, ho, t0, t1, hx⟩ := hrel
    have HO := Lib.hid ho; clear ho
    have htl : tb < wr.heap.size := cell_lt t0
    by_cases hlt : k < n
    · have hkl : k < l.length := by rw [HL.out]; exact hlt
      have hmod : (n - k) % n < n := Nat.mod_lt _ (by omega)
      obtain ⟨q0, q1, q2⟩ : 0 ≤ (-(k : Int)) % n ∧ (-(k : Int)) % n < n ∧ ((-(k : Int)) % n).toNat = (n - k) % n := by
        have e : (-(k : Int)) % n = (((n - k) % n : Nat) : Int) := by
          have e1 : (((n - k) % n : Nat) : Int) = ((n : Int) - k) % n := by
            rw [show ((n : Int) - k) = ((n - k : Nat) : Int) from by omega]; simp
          rw [e1]; simp
        omega
      have hnz : ((n : Int) == 0) = false := by simp; omega
      have hnk : 0 ≤ (n : Int) - k := by omega
      obtain ⟨b, off, L1, cL1, rfl, hc0', hc1', _, _, _⟩ := (HA.out.ext hx).g (k := k) (by rw [HL.out]; exact hlt)
      obtain ⟨L, cL, hc0, hc1, hs, hcl, hcm⟩ := (HA.out.ext hx).at1 (k := (n - k) % n) (by rw [HL.out]; exact hmod)
      have hll := HN.out ((n - k) % n) (by omega)
      have HS := Lib.hid hs; clear hs
      obtain ⟨ln, hln⟩ : ∃ ln, ln = (gE l ((n - k) % n)).2 := ⟨_, rfl⟩
      rw [← hln] at hc1 HS hll hcl
      have HLN := Lib.hid hln; clear hln
      have hbl : b < wr.heap.size := cell_lt hc0
      go_wp2_with fail
      refine wp_at fun W1 hW1 => ?_
      have hx1 : Ext wr W1 := by rw [hW1]; exact (Ext.refl _).alloc _
      have b0 : W1.cell? ⟨wr.heap.size, 0, none⟩ = some (.string (gE l ((n - k) % n)).1) := by rw [hW1]; simp [go_sem]
      have t0' := hx1.cell t0
      have t1' := hx1.cell t1
      have hx1w : tb + 1 ≤ W1.heap.size := Nat.le_trans htl hx1.size
      clear hW1 hc0 hc1 hbl
      obtain ⟨bx, hbx⟩ : ∃ bx, bx = wr.heap.size := ⟨_, rfl⟩
      rw [← hbx] at b0
      rw [← hbx]
      clear hbx
      obtain ⟨EL, hEL⟩ : ∃ EL, EL = (turnE true q l).take k := ⟨_, rfl⟩
      have hoE := HO.out
      rw [← hEL] at hoE
      obtain ⟨ps, hps, hor⟩ := hoE
      have HPS := Lib.hid hps; have HOR := Lib.hid hor; clear hps hor
      have hELl : EL.length ≤ 1000 := by rw [hEL, List.length_take]; omega
      have HEL := Lib.hid hEL; clear hEL
      obtain ⟨zz, hzz⟩ : ∃ zz, zz = ((n : Int) - k) % n := ⟨_, rfl⟩
      rw [← hzz]
      clear hzz
      go_loopw [8, 35] (fun v i wq => ∃ j : Nat, j ≤ ln.length ∧ i = .int .i64 j ∧ OwnS wq W1.heap.size v ((ln.take j).map (applyT true q)) ∧ Ext W1 wq) (fun _ i _ => ln.length - (intOf i).toNat)
      case atStart => exact ⟨0, Nat.zero_le _, rfl, OwnS.nil _ _, Ext.refl _⟩
      case round =>
        obtain ⟨wq, rfl⟩ : ∃ wq : World, wq = wr := ⟨_, rfl⟩
        obtain ⟨j, hj, rfl, ho2, hy⟩ := hrel
        obtain ⟨LK, hLK⟩ : ∃ LK, LK = (ln.take j).map (applyT true q) := ⟨_, rfl⟩
        rw [← hLK] at ho2
        have hLKl : LK.length ≤ 1000 := by rw [hLK, List.length_map, List.length_take]; omega
        have HLKE := Lib.hid hLK; clear hLK
        have HO2 := Lib.hid ho2; clear ho2
        have r0 := hy.cell t0'
        have r1 := hy.cell t1'
        have hsq : W1.heap.size ≤ wq.heap.size := hy.size
        by_cases hjl : j < ln.length
        · obtain ⟨bs, os, rfl, s0, s1⟩ := ((HS.out.ext hx1).ext hy).g hjl
          have htq : tb < wq.heap.size := cell_lt r0
          go_wp2_with fail
          refine (apply_any true q (gS ln j) _).mono ?_
          rintro e w2 ⟨rfl, he2⟩
          have hx2 : Ext wq w2 := ((Ext.refl _).alloc _).trans he2
          clear he2 s0 s1
          go_wp2_with (at_builtin; refine wpList_append_own _ rfl (.tmp 39) (.tmp 43) 50 rfl W1.heap.size 62 i0 (.agg #[.int .i64 0, .int .i64 0]) 2 16 Tryz.underlying50 hi0 hz0 hz1 hz2 rfl (by decide) u8 LK.length (scells LK) rfl (World.ownsRow.alloc (own_ext HO2.out hx2) _) ⟨w2.heap.size, 0, none⟩ 1 1 [.int .i64 (applyT true q (gS ln j)).1, .int .i64 (applyT true q (gS ln j)).2] rfl ?c1 ?c2 ?c3 ?c4 ?c5 ?c6 ?_)
          case c1 => rfl
          case c2 => exact World.news_of_block (cs := #[.int .i64 (applyT true q (gS ln j)).1, .int .i64 (applyT true q (gS ln j)).2]) (t := 62) (fr := (0, 0)) (heap_alloc_new w2 _)
          case c3 => simp [Value.oneCell']
          case c4 => unfold maxLen; omega
          case c5 => omega
          case c6 => have := hx2.size; simp; omega
          intro v' w4 hown' hgrow _
          have hO' : OwnS w4 W1.heap.size v' ((ln.take (j + 1)).map (applyT true q)) := by
            rw [map_take_succ hjl, ← HLKE.out]
            unfold OwnS
            rw [scells_append, List.length_append]
            exact hown'
          have hx' : Ext W1 w4 := ((hy.trans hx2).alloc _).grown hgrow (fun g hg => (World.ownsRow.lt HO2.out g hg).1)
          have HO' := Lib.hid hO'; clear hO' hown' hgrow
          go_wp2_with fail
          go_roundw
          case rel => exact ⟨j + 1, by omega, by go_num, HO'.out, hx'⟩
          case measure => simp [intOf]; omega
        · clear r1
          have hj' : ln.length ≤ j := by omega
          have hO3 : OwnS wq W1.heap.size u8 (ln.map (applyT true q)) := by
            have h := HO2.out
            rw [HLKE.out, List.take_of_length_le (by omega)] at h
            exact h
          clear HO2
          go_wp2_with fail
          have y00 := hy.cell b0
          refine (reverse_own W1.heap.size u8 _ wq hO3 (by rw [List.length_map]; omega)).mono ?_
          rintro e wz ⟨rfl, hO4, hxf⟩
          have hxz : Ext W1 wz := hxf W1 (Nat.le_refl _) hy
          have hO5 : OwnS wz W1.heap.size u8 (turnL true q ln) := by unfold turnL; rw [if_pos rfl]; exact hO4
          have HO3 := Lib.hid hO5
          obtain ⟨AL, capL, rfl, _, _, _⟩ := hO5.slice
          clear hO5 hO4 hO3 y00 hxf
          have y0 := hxz.cell b0
          go_wp2_with (at_builtin; refine wpList_append_own _ rfl (.tmp 50) (.tmp 55) 48 rfl (tb + 1) 57 e0 (.agg #[.string ⟨#[]⟩, .slice none 0 0]) 2 40 Tryz.underlying48 he0' hy0 hy1 hy2 rfl (by decide) u5 EL.length (ecells ps) rfl (World.ownsRow.alloc (own_ext HOR.out (hx1.trans hxz)) _) ⟨wz.heap.size, 0, none⟩ 1 1 [.string (gE l ((n - k) % n)).1, .slice AL (turnL true q ln).length capL] rfl ?c1 ?c2 ?c3 ?c4 ?c5 ?c6 ?_)
          case c1 => rfl
          case c2 => exact World.news_of_block (cs := #[.string (gE l ((n - k) % n)).1, .slice AL (turnL true q ln).length capL]) (t := 57) (fr := (0, 0)) (heap_alloc_new wz _)
          case c3 => simp [Value.oneCell']
          case c4 => unfold maxLen; omega
          case c5 => omega
          case c6 => have := hxz.size; simp; omega
          intro v' w4 hown' hgrow _
          have hch := (hx1.trans hxz).alloc (.cells #[.string (gE l ((n - k) % n)).1, .slice AL (turnL true q ln).length capL] 57)
          have hor1 := own_ext HOR.out hch
          have hO' : OwnE w4 (tb + 1) v' ((turnE true q l).take (k + 1)) := by
            rw [turnE_take hkl, ← HEL.out]
            have e : turnAt true q l k = ((gE l ((n - k) % n)).1, turnL true q ln) := by unfold turnAt turnI; rw [HLN.out, HL.out]; simp
            rw [e]
            refine ⟨ps ++ [((gE l ((n - k) % n)).1, .slice AL (turnL true q ln).length capL)], ((HPS.out.ext hch).grown hor1 (by decide) hgrow).snoc ⟨rfl, ?_⟩, ?_⟩
            · exact ((HO3.out.ext ((Ext.refl _).alloc _)).grown hor1 (by decide) hgrow).base_le hx1w
            · rw [ecells_append, List.length_append]; exact hown'
          have hx' : Ext w w4 := (hx.trans hch).grown hgrow (fun g hg => by have h1 := (World.ownsRow.lt HOR.out g hg).1; have h2 := HTB.out; omega)
          have hne : ∀ j, (w4.cell? ⟨tb, j, none⟩) = W1.cell? ⟨tb, j, none⟩ := fun j => by
            have hl1 : tb < W1.heap.size := hx1w
            have hl2 : tb < wz.heap.size := Nat.lt_of_lt_of_le hl1 hxz.size
            have h1 := World.cell?_of_block (w := wz.alloc _) (a := ⟨tb, j, none⟩) (hgrow.block tb (by simp; omega) (fun e => by have := (World.ownsRow.lt HOR.out _ e.symm).1; omega))
            rw [h1, World.cell?_alloc_lt _ _ _ hl2]
            exact hxz.cellq hl1
          have z0 : w4.cell? ⟨tb, 0, none⟩ = some (.bool true) := (hne 0).trans t0'
          have z1 : w4.cell? ⟨tb, 1, none⟩ = some (.int .i64 q) := (hne 1).trans t1'
          have HO' := Lib.hid hO'; clear hO' hown' hgrow hne
          go_wp2_with fail
          go_roundw
          case rel => exact ⟨k + 1, by omega, by go_num, HO'.out, z0, z1, hx'⟩
          case measure => simp [intOf]; omega
    · go_wp2_with fail
      go_ret
      refine ⟨_, rfl, ?_, hx⟩
      have h := HO.out
      rw [List.take_of_length_le (by rw [turnE_len, HL.out]; omega)] at h
      exact h.base_le (by have := HTB.out; omega)
theorem oturned_any (A : Option Addr) (n c : Nat) (f : Bool) (q : Int) (l : List Edge) (w : World) (ha : EdgesAt w A l) (hl : l.length = n) (hn : n ≤ 1000) (hlen : ∀ k, k < n → (gE l k).2.length ≤ 1000) :
    Calls Tryz.prog 53 #[.slice A n c, TV f q] w (RetE w (turnE f q l)) := by
  cases f
  · exact oturned_false A n c q l w ha hl hn hlen
  · exact oturned_true A n c q l w ha hl hn hlen
end Go.Proofs.YtkigmpholnfkbaaGreat
