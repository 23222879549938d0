/- grade.Turned -/
import Derived.RegionTactic
import Derived.Laws.BitsAllLaws
import Derived.Laws.BitsLemmas
import Derived.Deep.AppendLies
import Derived.Test.YtkigmpholnfkbaaGreatKTurnD
import Derived.Test.YtkigmpholnfkbaaGreatKMirror
import Derived.Test.YtkigmpholnfkbaaGreatKMov
/- slices.Reverse over spots, in place, on a row of the call's own -/
namespace Go.Proofs.YtkigmpholnfkbaaGreat
open Go.RowKit
def RowS (w : World) (g : Nat) (L : List Spot) (R : List Value) : Prop := w.heap[g]? = some (.cells (scells L ++ R).toArray 62 (0, 0))
theorem RowS.cell {w : World} {g : Nat} {L : List Spot} {R : List Value} (h : RowS w g L R) {k : Nat} (hk : k < L.length) :
    w.cell? ⟨g, k * 2, none⟩ = some (.int .i64 (gS L k).1) ∧ w.cell? ⟨g, k * 2 + 1, none⟩ = some (.int .i64 (gS L k).2) := by
  unfold RowS at h
  have e0 : (scells L ++ R)[k * 2]? = some (.int .i64 (gS L k).1) := by
    rw [List.getElem?_append_left (by rw [scells_length]; omega), scells_even, List.getElem?_eq_getElem hk, gS_eq hk]; rfl
  have e1 : (scells L ++ R)[k * 2 + 1]? = some (.int .i64 (gS L k).2) := by
    rw [List.getElem?_append_left (by rw [scells_length]; omega), scells_odd, List.getElem?_eq_getElem hk, gS_eq hk]; rfl
  simp only [World.cell?, h, Option.isSome_none, Bool.false_eq_true, if_false, List.getElem?_toArray, e0, e1]
  exact ⟨trivial, trivial⟩
theorem RowS.frozen {w : World} {g : Nat} {L : List Spot} {R : List Value} (h : RowS w g L R) (j : Nat) : w.frozen? ⟨g, j, none⟩ = false := by
  unfold RowS at h
  simp [World.frozen?, h]
theorem RowS.set {w : World} {g : Nat} {L : List Spot} {R : List Value} (h : RowS w g L R) {k : Nat} (hk : k < L.length) (s : Spot) : RowS ((w.setCell ⟨g, k * 2, none⟩ (.int .i64 s.1)).setCell ⟨g, k * 2 + 1, none⟩ (.int .i64 s.2)) g (L.set k s) R := by
  unfold RowS at h ⊢
  rw [← scells_set]
  have e : ((scells L).set (k * 2) (.int .i64 s.1)).set (k * 2 + 1) (.int .i64 s.2) ++ R = ((scells L ++ R).set (k * 2) (.int .i64 s.1)).set (k * 2 + 1) (.int .i64 s.2) := by
    rw [List.set_append_left _ _ (by rw [scells_length]; omega), List.set_append_left _ _ (by rw [List.length_set, scells_length]; omega)]
  rw [e]
  simp [World.setCell, Array.getElem?_modify, h]
/- after k rounds -/
def revK (L : List Spot) (k : Nat) : List Spot := (List.range L.length).map fun p => if p < k ∨ L.length - k ≤ p then gS L (L.length - 1 - p) else gS L p
theorem revK_len (L : List Spot) (k : Nat) : (revK L k).length = L.length := by simp [revK]
theorem revK_get {L : List Spot} {k p : Nat} (hp : p < L.length) : gS (revK L k) p = if p < k ∨ L.length - k ≤ p then gS L (L.length - 1 - p) else gS L p := by
  simp [gS, revK, hp]
theorem revK_zero (L : List Spot) : revK L 0 = L := list_ext_gS (revK_len L 0) fun p hp => by
  rw [revK_len] at hp
  rw [revK_get hp, if_neg (by omega)]
theorem revK_done {L : List Spot} {k : Nat} (h : L.length ≤ 2 * k + 1) (hk : k ≤ L.length) : revK L k = L.reverse := list_ext_gS (by rw [revK_len, List.length_reverse]) fun p hp => by
  rw [revK_len] at hp
  rw [revK_get hp]
  have e : gS L.reverse p = gS L (L.length - 1 - p) := by
    rw [gS_eq (by simpa using hp), List.getElem_reverse, gS_eq (by omega)]
  rw [e]
  split
  · rfl
  · rename_i h1
    congr 1; omega
theorem revK_succ {L : List Spot} {k : Nat} (h : k < L.length - 1 - k) : ((revK L k).set k (gS (revK L k) (L.length - 1 - k))).set (L.length - 1 - k) (gS (revK L k) k) = revK L (k + 1) :=
  list_ext_gS (by simp [revK_len]) fun p hp => by
    simp [revK_len] at hp
    rw [gS_set (by simp [revK_len]; omega), gS_set (by rw [revK_len]; omega), revK_get (k := k + 1) hp, revK_get (p := k) (by omega), revK_get (p := L.length - 1 - k) (by omega), revK_get hp]
    by_cases h1 : p = L.length - 1 - k
    · rw [if_pos h1, if_neg (by omega), if_pos (by omega)]; congr 1; omega
    · rw [if_neg h1]
      by_cases h2 : p = k
      · rw [if_pos h2, if_neg (by omega), if_pos (by omega)]; congr 1; omega
      · rw [if_neg h2]
        by_cases h3 : p < k ∨ L.length - k ≤ p
        · rw [if_pos h3, if_pos (by omega)]
        · rw [if_neg h3, if_neg (by omega)]

/- only block g has turned -/
def Only (g : Nat) (w w' : World) : Prop := w.grownBy w' (some g)
theorem Only.refl (g : Nat) (w : World) : Only g w w := World.grownBy.refl w _
theorem Only.drewN {g : Nat} {a w : World} (h : Only g a w) (n : Nat) : Only g a (w.drewN n) := ⟨h.os, h.tape, h.output, h.size, h.block⟩
theorem Only.drew {g : Nat} {a w : World} (h : Only g a w) : Only g a w.drew := ⟨h.os, h.tape, h.output, h.size, h.block⟩
theorem Only.setCell {g : Nat} {a w : World} (h : Only g a w) (j : Nat) (u : Value) : Only g a (w.setCell ⟨g, j, none⟩ u) :=
  ⟨h.os, h.tape, h.output, by simpa [World.setCell] using h.size, fun i hi hne => (Below.heap_setCell w ⟨g, j, none⟩ u i (by rintro rfl; exact hne rfl)).trans (h.block i hi hne)⟩
set_option maxRecDepth 100000 in
set_option maxHeartbeats 1600000 in
theorem reverse_any (g n c : Nat) (L : List Spot) (R : List Value) (w : World) (hR : RowS w g L R) (hl : L.length = n) (hn : n ≤ 1000000) :
    Calls Tryz.prog 77 #[.slice (some ⟨g, 0, none⟩) n c] w fun e w' => e = .returned (.tuple #[]) ∧ RowS w' g L.reverse R ∧ Only g w w' := by
  have HL := Lib.hid hl; clear hl
  have HR := Lib.hid hR; clear hR
  go_enter Tryz.func77, Tryz.ntmps77
  go_wp2_with fail
  go_loopw [2, 3] (fun i j wr => ∃ k : Nat, 2 * k ≤ n + 1 ∧ i = .int .i64 k ∧ j = .int .i64 ((n : Int) - 1 - k) ∧ RowS wr g (revK L k) R ∧ Only g w wr) (fun i _ _ => n - (intOf i).toNat)
  case atStart => exact ⟨0, by omega, rfl, by simp, by rw [revK_zero]; exact HR.out, Only.refl _ _⟩
  case round =>
    obtain ⟨k, hk, rfl, rfl, hB, ho⟩ := hrel
    have HB := Lib.hid hB; clear hB
    by_cases hlt : k < n - 1 - k
    · have hlt' : (k : Int) < (n : Int) - 1 - k := by omega
      obtain ⟨m, hm⟩ : ∃ m, n = m + 1 + k := ⟨n - 1 - k, by omega⟩
      subst hm
      have hjm : (((m + 1 + k : Nat) : Int) - 1 - k) = m := by omega
      rw [hjm] at hlt' ⊢
      obtain ⟨c0, c1⟩ := HB.out.cell (k := k) (by rw [revK_len, HL.out]; omega)
      obtain ⟨d0, d1⟩ := HB.out.cell (k := m) (by rw [revK_len, HL.out]; omega)
      have f0 := HB.out.frozen (k * 2)
      have f1 := HB.out.frozen (k * 2 + 1)
      have f2 := HB.out.frozen (m * 2)
      have f3 := HB.out.frozen (m * 2 + 1)
      have hkm : k < m := by omega
      clear hjm
      go_wp2_with fail
      go_region
      go_wp2_with fail
      go_roundw
      case rel =>
        refine ⟨k + 1, by omega, by go_num, by congr 1; omega, ?_, ?_⟩
        · have h := (HB.out.set (k := k) (by rw [revK_len, HL.out]; omega) (gS (revK L k) m)).set (k := m) (by rw [List.length_set, revK_len, HL.out]; omega) (gS (revK L k) k)
          have e : L.length - 1 - k = m := by rw [HL.out]; omega
          have h2 := revK_succ (L := L) (k := k) (by rw [e]; exact hkm)
          rw [e] at h2
          rw [h2] at h
          exact h
        · first
            | exact (((ho.drew.setCell _ _).setCell _ _).setCell _ _).setCell _ _
            | exact ((((ho.setCell _ _).setCell _ _).setCell _ _).setCell _ _).drew
      case measure => simp [intOf]; omega
    · have hlt' : ¬ (k : Int) < (n : Int) - 1 - k := by omega
      go_wp2_with fail
      go_end0
      refine ⟨rfl, ?_, ho⟩
      rw [← revK_done (L := L) (k := k) (by rw [HL.out]; omega) (by rw [HL.out]; omega)]
      exact HB.out
theorem reverse_empty (A : Option Addr) (c : Nat) (w : World) :
    Calls Tryz.prog 77 #[.slice A 0 c] w fun e w' => e = .returned (.tuple #[]) ∧ w = w' := by
  go_enter Tryz.func77, Tryz.ntmps77
  go_wp2_with fail
  go_loop [2, 3] (fun i j => i = .int .i64 0 ∧ j = .int .i64 (-1)) (fun _ _ => 0)
  case atStart => exact ⟨rfl, rfl⟩
  case round =>
    obtain ⟨rfl, rfl⟩ := hrel
    go_wp2_with fail
    go_end0
    exact ⟨rfl, rfl⟩
theorem OwnS.row {w : World} {base : Nat} {v : Value} {L : List Spot} (h : OwnS w base v L) :
    (v = .slice none 0 0 ∧ L = []) ∨ ∃ g cap R, v = .slice (some ⟨g, 0, none⟩) L.length cap ∧ base ≤ g ∧ g < w.heap.size ∧ RowS w g L R ∧ L.length ≤ cap ∧ cap ≤ 9223372036854775807 ∧ L.length * 2 + R.length = cap * 2 := by
  rcases h.2 with ⟨rfl, h0⟩ | ⟨g, cap, cur, rfl, hb, hh, hn, hm, hs, ht⟩
  · exact .inl ⟨rfl, List.eq_nil_of_length_eq_zero h0⟩
  · refine .inr ⟨g, cap, cur.toList.drop (L.length * 2), rfl, hb, ?_, ?_, hn, hm, ?_⟩
    · rcases Nat.lt_or_ge g w.heap.size with hl | hl
      · exact hl
      · rw [Array.getElem?_eq_none hl] at hh; cases hh
    · unfold RowS; rw [← ht, List.take_append_drop]; exact hh
    · have hl : cur.toList.length = cap * 2 := by simpa using hs
      rw [List.length_drop]; omega
theorem RowS.own {w : World} {g base cap : Nat} {L : List Spot} {R : List Value} (h : RowS w g L R) (hb : base ≤ g) (hn : L.length ≤ cap) (hm : cap ≤ 9223372036854775807) (hs : L.length * 2 + R.length = cap * 2) : OwnS w base (.slice (some ⟨g, 0, none⟩) L.length cap) L :=
  ⟨scells_length L, .inr ⟨g, cap, (scells L ++ R).toArray, rfl, hb, h, hn, hm, by simp [scells_length]; exact hs, by simp [← scells_length]⟩⟩
theorem Ext.only {a b c : World} {g : Nat} (h : Ext a b) (ho : Only g b c) (hg : a.heap.size ≤ g) : Ext a c := h.grown ho (fun k hk => by injection hk with hk; omega)
/- Reverse, whatever the row is -/
def RetRev (w : World) (base : Nat) (v : Value) (L : List Spot) (e : Ending) (w' : World) : Prop := e = .returned (.tuple #[]) ∧ OwnS w' base v L.reverse ∧ ∀ a : World, a.heap.size ≤ base → Ext a w → Ext a w'
theorem reverse_own (base : Nat) (v : Value) (L : List Spot) (w : World) (h : OwnS w base v L) (hn : L.length ≤ 1000000) :
    Calls Tryz.prog 77 #[v] w (RetRev w base v L) := by
  rcases h.row with ⟨rfl, rfl⟩ | ⟨g, cap, R, rfl, hb, _, hr, h1, h2, h3⟩
  · exact (reverse_empty none 0 w).mono fun e w' ⟨he, hw⟩ => by subst hw; exact ⟨he, OwnS.nil _ _, fun _ _ h => h⟩
  · refine (reverse_any g _ cap L R w hr rfl hn).mono fun e w' ⟨he, hr', ho⟩ => ⟨he, ?_, fun a ha hx => hx.only ho (by omega)⟩
    have h4 := hr'.own (base := base) (cap := cap) hb (by simpa using h1) h2 (by simpa using h3)
    rwa [List.length_reverse] at h4
end Go.Proofs.YtkigmpholnfkbaaGreat
/- turn.Apply -/
namespace Go.Proofs.YtkigmpholnfkbaaGreat
open Go.RowKit
theorem and3 (q : Int) : bits .and .i64 q 3 = q % 4 := by
  show IntKind.i64.wrap ((BitVec.ofInt 64 q &&& BitVec.ofInt 64 3).toNat : Int) = q % 4
  have h3 : (BitVec.ofInt 64 3).toNat = 2 ^ 2 - 1 := by decide
  rw [BitVec.toNat_and, h3, Nat.and_two_pow_sub_one_eq_mod, BitVec.toNat_ofInt, IntKind.wrap_i64]
  omega
theorem quarts_succ (n : Nat) (s : Spot) : quarts (n + 1) s = quart (quarts n s) := rfl
set_option maxRecDepth 100000 in
set_option maxHeartbeats 800000 in
theorem apply_f (q : Int) (s : Spot) (w : World) :
    Calls Tryz.prog 54 #[TV false q, SV s] w fun e w' => e = .returned (SV (applyT false q s)) ∧ Ext w w' := by
  obtain ⟨x, y⟩ := s
  have ha := and3 q
  obtain ⟨r, hr⟩ : ∃ r : Nat, q % 4 = r := ⟨(q % 4).toNat, by omega⟩
  have hr4 : r < 4 := by omega
  have HR : Hid ((q % 4).toNat = r) := by show (q % 4).toNat = r; omega
  rw [hr] at ha
  clear hr
  obtain ⟨s0, hs0⟩ : ∃ s0, s0 = flipS false (x, y) := ⟨_, rfl⟩
  have HS0 := Lib.hid hs0; clear hs0
  go_enter Tryz.func54, Tryz.ntmps54
  go_wp2_with fail
  clear ha
  go_loopw [14] (fun i wr => ∃ k : Nat, k ≤ r ∧ i = .int .i64 k ∧ BlkS wr (w.heap.size + 1) [quarts k s0] ∧ BlkS wr (w.heap.size + 1 + 1) [(0, 0)] ∧ Ext w wr) (fun i _ => r - (intOf i).toNat)
  case atStart =>
    refine ⟨0, Nat.zero_le _, rfl, ?_, ?_, (((Ext.refl w).alloc _).alloc _).alloc _⟩
    · rw [HS0.out]
      have h := (BlkS.new (w.alloc (.cells #[.bool false, .int .i64 q] 66)) [quarts 0 (flipS false (x, y))]).ext ((Ext.refl _).alloc (.cells #[.int .i64 0, .int .i64 0] 62))
      simpa [scells, quarts, flipS] using h
    · have h := BlkS.new ((w.alloc (.cells #[.bool false, .int .i64 q] 66)).alloc (.cells (scells [flipS false (x, y)]).toArray 62)) [(0, 0)]
      simpa [scells, flipS] using h
  case round =>
    obtain ⟨k, hk, rfl, hB, hZ, hx⟩ := hrel
    have c0 : wr.cell? ⟨w.heap.size + 1, 0, none⟩ = some (.int .i64 (quarts k s0).1) := by rw [hB.cell]; rfl
    have c1 : wr.cell? ⟨w.heap.size + 1, 1, none⟩ = some (.int .i64 (quarts k s0).2) := by rw [hB.cell]; rfl
    have f0 := hB.frozen 0
    have f1 := hB.frozen 1
    have z0 : wr.cell? ⟨w.heap.size + 1 + 1, 0, none⟩ = some (.int .i64 0) := by rw [hZ.cell]; rfl
    have z1 : wr.cell? ⟨w.heap.size + 1 + 1, 1, none⟩ = some (.int .i64 0) := by rw [hZ.cell]; rfl
    have g0 := hZ.frozen 0
    have g1 := hZ.frozen 1
    have HB := Lib.hid hB; have HZ := Lib.hid hZ; clear hB hZ
    by_cases hlt : k < r
    · go_wp2_with fail
      go_roundw
      case rel =>
        refine ⟨k + 1, by omega, by go_num, ?_, ?_, ?_⟩
        · have h := HB.out.set 0 (quart (quarts k s0))
          simpa [quarts_succ, quart] using h
        · exact (HZ.out.other (by simp) _).other (by simp) _
        · exact (hx.setCell (by simp) _).setCell (by simp) _
      case measure => simp [intOf]; omega
    · go_wp2_with fail
      obtain rfl : k = r := by omega
      refine bodyPost_ret (v := SV (applyT false q (x, y))) (by
        have e : applyT false q (x, y) = quarts k s0 := by unfold applyT; rw [HR.out, HS0.out]
        rw [e]
        simp [results, Tryz.results54, go_sem, z0, z1]) rfl ⟨rfl, ?_⟩
      exact (hx.setCell (by simp; omega) _).setCell (by simp; omega) _
set_option maxRecDepth 100000 in
set_option maxHeartbeats 800000 in
theorem apply_t (q : Int) (s : Spot) (w : World) :
    Calls Tryz.prog 54 #[TV true q, SV s] w fun e w' => e = .returned (SV (applyT true q s)) ∧ Ext w w' := by
  obtain ⟨x, y⟩ := s
  have ha := and3 q
  obtain ⟨r, hr⟩ : ∃ r : Nat, q % 4 = r := ⟨(q % 4).toNat, by omega⟩
  have hr4 : r < 4 := by omega
  have HR : Hid ((q % 4).toNat = r) := by show (q % 4).toNat = r; omega
  rw [hr] at ha
  clear hr
  obtain ⟨s0, hs0⟩ : ∃ s0, s0 = flipS true (x, y) := ⟨_, rfl⟩
  have HS0 := Lib.hid hs0; clear hs0
  go_enter Tryz.func54, Tryz.ntmps54
  go_wp2_with fail
  clear ha
  go_loopw [14] (fun i wr => ∃ k : Nat, k ≤ r ∧ i = .int .i64 k ∧ BlkS wr (w.heap.size + 1) [quarts k s0] ∧ BlkS wr (w.heap.size + 1 + 1) [(0, 0)] ∧ Ext w wr) (fun i _ => r - (intOf i).toNat)
  case atStart =>
    refine ⟨0, Nat.zero_le _, rfl, ?_, ?_, (((Ext.refl w).alloc _).alloc _).alloc _⟩
    · rw [HS0.out]
      have h := (BlkS.new (w.alloc (.cells #[.bool true, .int .i64 q] 66)) [quarts 0 (flipS true (x, y))]).ext ((Ext.refl _).alloc (.cells #[.int .i64 0, .int .i64 0] 62))
      simpa [scells, quarts, flipS] using h
    · have h := BlkS.new ((w.alloc (.cells #[.bool true, .int .i64 q] 66)).alloc (.cells (scells [flipS true (x, y)]).toArray 62)) [(0, 0)]
      simpa [scells, flipS] using h
  case round =>
    obtain ⟨k, hk, rfl, hB, hZ, hx⟩ := hrel
    have c0 : wr.cell? ⟨w.heap.size + 1, 0, none⟩ = some (.int .i64 (quarts k s0).1) := by rw [hB.cell]; rfl
    have c1 : wr.cell? ⟨w.heap.size + 1, 1, none⟩ = some (.int .i64 (quarts k s0).2) := by rw [hB.cell]; rfl
    have f0 := hB.frozen 0
    have f1 := hB.frozen 1
    have z0 : wr.cell? ⟨w.heap.size + 1 + 1, 0, none⟩ = some (.int .i64 0) := by rw [hZ.cell]; rfl
    have z1 : wr.cell? ⟨w.heap.size + 1 + 1, 1, none⟩ = some (.int .i64 0) := by rw [hZ.cell]; rfl
    have g0 := hZ.frozen 0
    have g1 := hZ.frozen 1
    have HB := Lib.hid hB; have HZ := Lib.hid hZ; clear hB hZ
    by_cases hlt : k < r
    · go_wp2_with fail
      go_roundw
      case rel =>
        refine ⟨k + 1, by omega, by go_num, ?_, ?_, ?_⟩
        · have h := HB.out.set 0 (quart (quarts k s0))
          simpa [quarts_succ, quart] using h
        · exact (HZ.out.other (by simp) _).other (by simp) _
        · exact (hx.setCell (by simp) _).setCell (by simp) _
      case measure => simp [intOf]; omega
    · go_wp2_with fail
      obtain rfl : k = r := by omega
      refine bodyPost_ret (v := SV (applyT true q (x, y))) (by
        have e : applyT true q (x, y) = quarts k s0 := by unfold applyT; rw [HR.out, HS0.out]
        rw [e]
        simp [results, Tryz.results54, go_sem, z0, z1]) rfl ⟨rfl, ?_⟩
      exact (hx.setCell (by simp; omega) _).setCell (by simp; omega) _
theorem apply_any (f : Bool) (q : Int) (s : Spot) (w : World) :
    Calls Tryz.prog 54 #[TV f q, SV s] w fun e w' => e = .returned (SV (applyT f q s)) ∧ Ext w w' := by
  cases f
  · exact apply_f q s w
  · exact apply_t q s w
end Go.Proofs.YtkigmpholnfkbaaGreat
/- outline.Turned -/
namespace Go.Proofs.YtkigmpholnfkbaaGreat
open Go.RowKit
def RetE (w : World) (es : List Edge) (e : Ending) (w' : World) : Prop := ∃ v, e = .returned v ∧ OwnE w' w.heap.size v es ∧ Ext w w'
set_option maxRecDepth 100000 in
set_option maxHeartbeats 3200000 in
theorem oturned_false (A : Option Addr) (n c : Nat) (q : Int) (l : List Edge) (w : World) (ha : EdgesAt w A l) (hl : l.length = n) (hn : n ≤ 1000) (hlen : ∀ k, k < n → (gE l k).2.length ≤ 1000) :
    Calls Tryz.prog 53 #[.slice A n c, TV false q] w (RetE w (turnE false q l)) := by
  have HL := Lib.hid hl; clear hl
  have HA := Lib.hid ha; clear ha
  have HN := Lib.hid hlen; clear hlen
  obtain ⟨i0, hi0, hz0, hz1, hz2⟩ := info_parts spot_info
  obtain ⟨e0, he0', hy0, hy1, hy2⟩ := info_parts edge_info
  go_enter Tryz.func53, Tryz.ntmps53
  go_wp2_with fail
  refine wp_at fun W0 hW0 => ?_
  have hx0 : Ext w W0 := by rw [hW0]; exact (Ext.refl _).alloc _
  have t0 : W0.cell? ⟨w.heap.size, 0, none⟩ = some (.bool false) := by rw [hW0]; simp [go_sem]
  have t1 : W0.cell? ⟨w.heap.size, 1, none⟩ = some (.int .i64 q) := by rw [hW0]; simp [go_sem]
  obtain ⟨tb, htb⟩ : ∃ tb, tb = w.heap.size := ⟨_, rfl⟩
  rw [← htb] at t0 t1
  rw [← htb]
  have htl : tb < W0.heap.size := cell_lt t0
  have HTB := Lib.hid htb; clear htb hW0
  go_loopw [5, 13] (fun v i wr => ∃ k : Nat, k ≤ n ∧ i = .int .i64 k ∧ OwnE wr (tb + 1) v ((turnE false q l).take k) ∧ wr.cell? ⟨tb, 0, none⟩ = some (.bool false) ∧ wr.cell? ⟨tb, 1, none⟩ = some (.int .i64 q) ∧ Ext w wr) (fun _ i _ => n - (intOf i).toNat)
  case atStart => exact ⟨0, Nat.zero_le _, rfl, OwnE.nil _ _, t0, t1, hx0⟩
  case round =>
    clear t0 t1 hx0 htl
    obtain ⟨k, hk, rfl, ho, t0, t1, hx⟩ := hrel
    have HO := Lib.hid ho; clear ho
    have htl : tb < wr.heap.size := cell_lt t0
    by_cases hlt : k < n
    · have hkl : k < l.length := by rw [HL.out]; exact hlt
      obtain ⟨b, off, L, cL, rfl, hc0, hc1, hs, hcl, hcm⟩ := (HA.out.ext hx).g (k := k) (by rw [HL.out]; exact hlt)
      have hll := HN.out (k) (by omega)
      have HS := Lib.hid hs; clear hs
      obtain ⟨ln, hln⟩ : ∃ ln, ln = (gE l (k)).2 := ⟨_, rfl⟩
      rw [← hln] at hc1 HS hll hcl
      have HLN := Lib.hid hln; clear hln
      have hbl : b < wr.heap.size := cell_lt hc0
      go_wp2_with fail
      refine wp_at fun W1 hW1 => ?_
      have hx1 : Ext wr W1 := by rw [hW1]; exact (Ext.refl _).alloc _
      have b0 : W1.cell? ⟨wr.heap.size, 0, none⟩ = some (.string (gE l (k)).1) := by rw [hW1]; simp [go_sem]
      have t0' := hx1.cell t0
      have t1' := hx1.cell t1
      have hx1w : tb + 1 ≤ W1.heap.size := Nat.le_trans htl hx1.size
      clear hW1 hc0 hc1 hbl
      obtain ⟨bx, hbx⟩ : ∃ bx, bx = wr.heap.size := ⟨_, rfl⟩
      rw [← hbx] at b0
      rw [← hbx]
      clear hbx
      obtain ⟨EL, hEL⟩ : ∃ EL, EL = (turnE false q l).take k := ⟨_, rfl⟩
      have hoE := HO.out
      rw [← hEL] at hoE
      obtain ⟨ps, hps, hor⟩ := hoE
      have HPS := Lib.hid hps; have HOR := Lib.hid hor; clear hps hor
      have hELl : EL.length ≤ 1000 := by rw [hEL, List.length_take]; omega
      have HEL := Lib.hid hEL; clear hEL
      go_loopw [8, 35] (fun v i wq => ∃ j : Nat, j ≤ ln.length ∧ i = .int .i64 j ∧ OwnS wq W1.heap.size v ((ln.take j).map (applyT false q)) ∧ Ext W1 wq) (fun _ i _ => ln.length - (intOf i).toNat)
      case atStart => exact ⟨0, Nat.zero_le _, rfl, OwnS.nil _ _, Ext.refl _⟩
      case round =>
        obtain ⟨wq, rfl⟩ : ∃ wq : World, wq = wr := ⟨_, rfl⟩
        obtain ⟨j, hj, rfl, ho2, hy⟩ := hrel
        obtain ⟨LK, hLK⟩ : ∃ LK, LK = (ln.take j).map (applyT false q) := ⟨_, rfl⟩
        rw [← hLK] at ho2
        have hLKl : LK.length ≤ 1000 := by rw [hLK, List.length_map, List.length_take]; omega
        have HLKE := Lib.hid hLK; clear hLK
        have HO2 := Lib.hid ho2; clear ho2
        have r0 := hy.cell t0'
        have r1 := hy.cell t1'
        have hsq : W1.heap.size ≤ wq.heap.size := hy.size
        by_cases hjl : j < ln.length
        · obtain ⟨bs, os, rfl, s0, s1⟩ := ((HS.out.ext hx1).ext hy).g hjl
          have htq : tb < wq.heap.size := cell_lt r0
          go_wp2_with fail
          refine (apply_any false q (gS ln j) _).mono ?_
          rintro e w2 ⟨rfl, he2⟩
          have hx2 : Ext wq w2 := ((Ext.refl _).alloc _).trans he2
          clear he2 s0 s1
          go_wp2_with (at_builtin; refine wpList_append_own _ rfl (.tmp 39) (.tmp 43) 50 rfl W1.heap.size 62 i0 (.agg #[.int .i64 0, .int .i64 0]) 2 16 Tryz.underlying50 hi0 hz0 hz1 hz2 rfl (by decide) u8 LK.length (scells LK) rfl (World.ownsRow.alloc (own_ext HO2.out hx2) _) ⟨w2.heap.size, 0, none⟩ 1 1 [.int .i64 (applyT false q (gS ln j)).1, .int .i64 (applyT false q (gS ln j)).2] rfl ?c1 ?c2 ?c3 ?c4 ?c5 ?c6 ?_)
          case c1 => rfl
          case c2 => exact World.news_of_block (cs := #[.int .i64 (applyT false q (gS ln j)).1, .int .i64 (applyT false q (gS ln j)).2]) (t := 62) (fr := (0, 0)) (heap_alloc_new w2 _)
          case c3 => simp [Value.oneCell']
          case c4 => unfold maxLen; omega
          case c5 => omega
          case c6 => have := hx2.size; simp; omega
          intro v' w4 hown' hgrow _
          have hO' : OwnS w4 W1.heap.size v' ((ln.take (j + 1)).map (applyT false q)) := by
            rw [map_take_succ hjl, ← HLKE.out]
            unfold OwnS
            rw [scells_append, List.length_append]
            exact hown'
          have hx' : Ext W1 w4 := ((hy.trans hx2).alloc _).grown hgrow (fun g hg => (World.ownsRow.lt HO2.out g hg).1)
          have HO' := Lib.hid hO'; clear hO' hown' hgrow
          go_wp2_with fail
          go_roundw
          case rel => exact ⟨j + 1, by omega, by go_num, HO'.out, hx'⟩
          case measure => simp [intOf]; omega
        · clear r1
          have hj' : ln.length ≤ j := by omega
          have hO3 : OwnS wq W1.heap.size u8 (turnL false q ln) := by
            have h := HO2.out
            rw [HLKE.out, List.take_of_length_le (by omega)] at h
            unfold turnL; rw [if_neg (by decide)]; exact h
          have HO3 := Lib.hid hO3
          obtain ⟨AL, capL, rfl, _, _, _⟩ := hO3.slice
          clear hO3 HO2
          have hxz : Ext W1 wq := hy
          have y0 := hxz.cell b0
          go_wp2_with (at_builtin; refine wpList_append_own _ rfl (.tmp 50) (.tmp 55) 48 rfl (tb + 1) 57 e0 (.agg #[.string ⟨#[]⟩, .slice none 0 0]) 2 40 Tryz.underlying48 he0' hy0 hy1 hy2 rfl (by decide) u5 EL.length (ecells ps) rfl (World.ownsRow.alloc (own_ext HOR.out (hx1.trans hxz)) _) ⟨wq.heap.size, 0, none⟩ 1 1 [.string (gE l (k)).1, .slice AL (turnL false q ln).length capL] rfl ?c1 ?c2 ?c3 ?c4 ?c5 ?c6 ?_)
          case c1 => rfl
          case c2 => exact World.news_of_block (cs := #[.string (gE l (k)).1, .slice AL (turnL false q ln).length capL]) (t := 57) (fr := (0, 0)) (heap_alloc_new wq _)
          case c3 => simp [Value.oneCell']
          case c4 => unfold maxLen; omega
          case c5 => omega
          case c6 => have := hxz.size; simp; omega
          intro v' w4 hown' hgrow _
          have hch := (hx1.trans hxz).alloc (.cells #[.string (gE l (k)).1, .slice AL (turnL false q ln).length capL] 57)
          have hor1 := own_ext HOR.out hch
          have hO' : OwnE w4 (tb + 1) v' ((turnE false q l).take (k + 1)) := by
            rw [turnE_take hkl, ← HEL.out]
            have e : turnAt false q l k = ((gE l (k)).1, turnL false q ln) := by unfold turnAt turnI; rw [HLN.out, HL.out]; simp
            rw [e]
            refine ⟨ps ++ [((gE l (k)).1, .slice AL (turnL false q ln).length capL)], ((HPS.out.ext hch).grown hor1 (by decide) hgrow).snoc ⟨rfl, ?_⟩, ?_⟩
            · exact ((HO3.out.ext ((Ext.refl _).alloc _)).grown hor1 (by decide) hgrow).base_le hx1w
            · rw [ecells_append, List.length_append]; exact hown'
          have hx' : Ext w w4 := (hx.trans hch).grown hgrow (fun g hg => by have h1 := (World.ownsRow.lt HOR.out g hg).1; have h2 := HTB.out; omega)
          have hne : ∀ j, (w4.cell? ⟨tb, j, none⟩) = W1.cell? ⟨tb, j, none⟩ := fun j => by
            have hl1 : tb < W1.heap.size := hx1w
            have hl2 : tb < wq.heap.size := Nat.lt_of_lt_of_le hl1 hxz.size
            have h1 := World.cell?_of_block (w := wq.alloc _) (a := ⟨tb, j, none⟩) (hgrow.block tb (by simp; omega) (fun e => by have := (World.ownsRow.lt HOR.out _ e.symm).1; omega))
            rw [h1, World.cell?_alloc_lt _ _ _ hl2]
            exact hxz.cellq hl1
          have z0 : w4.cell? ⟨tb, 0, none⟩ = some (.bool false) := (hne 0).trans t0'
          have z1 : w4.cell? ⟨tb, 1, none⟩ = some (.int .i64 q) := (hne 1).trans t1'
          have HO' := Lib.hid hO'; clear hO' hown' hgrow hne
          go_wp2_with fail
          go_roundw
          case rel => exact ⟨k + 1, by omega, by go_num, HO'.out, z0, z1, hx'⟩
          case measure => simp [intOf]; omega
    · go_wp2_with fail
      go_ret
      refine ⟨_, rfl, ?_, hx⟩
      have h := HO.out
      rw [List.take_of_length_le (by rw [turnE_len, HL.out]; omega)] at h
      exact h.base_le (by have := HTB.out; omega)

set_option maxRecDepth 100000 in
set_option maxHeartbeats 3200000 in
theorem oturned_true (A : Option Addr) (n c : Nat) (q : Int) (l : List Edge) (w : World) (ha : EdgesAt w A l) (hl : l.length = n) (hn : n ≤ 1000) (hlen : ∀ k, k < n → (gE l k).2.length ≤ 1000) :
    Calls Tryz.prog 53 #[.slice A n c, TV true q] w (RetE w (turnE true q l)) := by
  have HL := Lib.hid hl; clear hl
  have HA := Lib.hid ha; clear ha
  have HN := Lib.hid hlen; clear hlen
  obtain ⟨i0, hi0, hz0, hz1, hz2⟩ := info_parts spot_info
  obtain ⟨e0, he0', hy0, hy1, hy2⟩ := info_parts edge_info
  go_enter Tryz.func53, Tryz.ntmps53
  go_wp2_with fail
  refine wp_at fun W0 hW0 => ?_
  have hx0 : Ext w W0 := by rw [hW0]; exact (Ext.refl _).alloc _
  have t0 : W0.cell? ⟨w.heap.size, 0, none⟩ = some (.bool true) := by rw [hW0]; simp [go_sem]
  have t1 : W0.cell? ⟨w.heap.size, 1, none⟩ = some (.int .i64 q) := by rw [hW0]; simp [go_sem]
  obtain ⟨tb, htb⟩ : ∃ tb, tb = w.heap.size := ⟨_, rfl⟩
  rw [← htb] at t0 t1
  rw [← htb]
  have htl : tb < W0.heap.size := cell_lt t0
  have HTB := Lib.hid htb; clear htb hW0
  go_loopw [5, 13] (fun v i wr => ∃ k : Nat, k ≤ n ∧ i = .int .i64 k ∧ OwnE wr (tb + 1) v ((turnE true q l).take k) ∧ wr.cell? ⟨tb, 0, none⟩ = some (.bool true) ∧ wr.cell? ⟨tb, 1, none⟩ = some (.int .i64 q) ∧ Ext w wr) (fun _ i _ => n - (intOf i).toNat)
  case atStart => exact ⟨0, Nat.zero_le _, rfl, OwnE.nil _ _, t0, t1, hx0⟩
  case round =>
    clear t0 t1 hx0 htl
    obtain ⟨k, hk, rfl, ho, t0, t1, hx⟩ := hrel
    have HO := Lib.hid ho; clear ho
    have htl : tb < wr.heap.size := cell_lt t0
    by_cases hlt : k < n
    · have hkl : k < l.length := by rw [HL.out]; exact hlt
      have hmod : (n - k) % n < n := Nat.mod_lt _ (by omega)
      obtain ⟨q0, q1, q2⟩ : 0 ≤ (-(k : Int)) % n ∧ (-(k : Int)) % n < n ∧ ((-(k : Int)) % n).toNat = (n - k) % n := by
        have e : (-(k : Int)) % n = (((n - k) % n : Nat) : Int) := by
          have e1 : (((n - k) % n : Nat) : Int) = ((n : Int) - k) % n := by
            rw [show ((n : Int) - k) = ((n - k : Nat) : Int) from by omega]; simp
          rw [e1]; simp
        omega
      have hnz : ((n : Int) == 0) = false := by simp; omega
      have hnk : 0 ≤ (n : Int) - k := by omega
      obtain ⟨b, off, L1, cL1, rfl, hc0', hc1', _, _, _⟩ := (HA.out.ext hx).g (k := k) (by rw [HL.out]; exact hlt)
      obtain ⟨L, cL, hc0, hc1, hs, hcl, hcm⟩ := (HA.out.ext hx).at1 (k := (n - k) % n) (by rw [HL.out]; exact hmod)
      have hll := HN.out ((n - k) % n) (by omega)
      have HS := Lib.hid hs; clear hs
      obtain ⟨ln, hln⟩ : ∃ ln, ln = (gE l ((n - k) % n)).2 := ⟨_, rfl⟩
      rw [← hln] at hc1 HS hll hcl
      have HLN := Lib.hid hln; clear hln
      have hbl : b < wr.heap.size := cell_lt hc0
      go_wp2_with fail
      refine wp_at fun W1 hW1 => ?_
      have hx1 : Ext wr W1 := by rw [hW1]; exact (Ext.refl _).alloc _
      have b0 : W1.cell? ⟨wr.heap.size, 0, none⟩ = some (.string (gE l ((n - k) % n)).1) := by rw [hW1]; simp [go_sem]
      have t0' := hx1.cell t0
      have t1' := hx1.cell t1
      have hx1w : tb + 1 ≤ W1.heap.size := Nat.le_trans htl hx1.size
      clear hW1 hc0 hc1 hbl
      obtain ⟨bx, hbx⟩ : ∃ bx, bx = wr.heap.size := ⟨_, rfl⟩
      rw [← hbx] at b0
      rw [← hbx]
      clear hbx
      obtain ⟨EL, hEL⟩ : ∃ EL, EL = (turnE true q l).take k := ⟨_, rfl⟩
      have hoE := HO.out
      rw [← hEL] at hoE
      obtain ⟨ps, hps, hor⟩ := hoE
      have HPS := Lib.hid hps; have HOR := Lib.hid hor; clear hps hor
      have hELl : EL.length ≤ 1000 := by rw [hEL, List.length_take]; omega
      have HEL := Lib.hid hEL; clear hEL
      obtain ⟨zz, hzz⟩ : ∃ zz, zz = ((n : Int) - k) % n := ⟨_, rfl⟩
      rw [← hzz]
      clear hzz
      go_loopw [8, 35] (fun v i wq => ∃ j : Nat, j ≤ ln.length ∧ i = .int .i64 j ∧ OwnS wq W1.heap.size v ((ln.take j).map (applyT true q)) ∧ Ext W1 wq) (fun _ i _ => ln.length - (intOf i).toNat)
      case atStart => exact ⟨0, Nat.zero_le _, rfl, OwnS.nil _ _, Ext.refl _⟩
      case round =>
        obtain ⟨wq, rfl⟩ : ∃ wq : World, wq = wr := ⟨_, rfl⟩
        obtain ⟨j, hj, rfl, ho2, hy⟩ := hrel
        obtain ⟨LK, hLK⟩ : ∃ LK, LK = (ln.take j).map (applyT true q) := ⟨_, rfl⟩
        rw [← hLK] at ho2
        have hLKl : LK.length ≤ 1000 := by rw [hLK, List.length_map, List.length_take]; omega
        have HLKE := Lib.hid hLK; clear hLK
        have HO2 := Lib.hid ho2; clear ho2
        have r0 := hy.cell t0'
        have r1 := hy.cell t1'
        have hsq : W1.heap.size ≤ wq.heap.size := hy.size
        by_cases hjl : j < ln.length
        · obtain ⟨bs, os, rfl, s0, s1⟩ := ((HS.out.ext hx1).ext hy).g hjl
          have htq : tb < wq.heap.size := cell_lt r0
          go_wp2_with fail
          refine (apply_any true q (gS ln j) _).mono ?_
          rintro e w2 ⟨rfl, he2⟩
          have hx2 : Ext wq w2 := ((Ext.refl _).alloc _).trans he2
          clear he2 s0 s1
          go_wp2_with (at_builtin; refine wpList_append_own _ rfl (.tmp 39) (.tmp 43) 50 rfl W1.heap.size 62 i0 (.agg #[.int .i64 0, .int .i64 0]) 2 16 Tryz.underlying50 hi0 hz0 hz1 hz2 rfl (by decide) u8 LK.length (scells LK) rfl (World.ownsRow.alloc (own_ext HO2.out hx2) _) ⟨w2.heap.size, 0, none⟩ 1 1 [.int .i64 (applyT true q (gS ln j)).1, .int .i64 (applyT true q (gS ln j)).2] rfl ?c1 ?c2 ?c3 ?c4 ?c5 ?c6 ?_)
          case c1 => rfl
          case c2 => exact World.news_of_block (cs := #[.int .i64 (applyT true q (gS ln j)).1, .int .i64 (applyT true q (gS ln j)).2]) (t := 62) (fr := (0, 0)) (heap_alloc_new w2 _)
          case c3 => simp [Value.oneCell']
          case c4 => unfold maxLen; omega
          case c5 => omega
          case c6 => have := hx2.size; simp; omega
          intro v' w4 hown' hgrow _
          have hO' : OwnS w4 W1.heap.size v' ((ln.take (j + 1)).map (applyT true q)) := by
            rw [map_take_succ hjl, ← HLKE.out]
            unfold OwnS
            rw [scells_append, List.length_append]
            exact hown'
          have hx' : Ext W1 w4 := ((hy.trans hx2).alloc _).grown hgrow (fun g hg => (World.ownsRow.lt HO2.out g hg).1)
          have HO' := Lib.hid hO'; clear hO' hown' hgrow
          go_wp2_with fail
          go_roundw
          case rel => exact ⟨j + 1, by omega, by go_num, HO'.out, hx'⟩
          case measure => simp [intOf]; omega
        · clear r1
          have hj' : ln.length ≤ j := by omega
          have hO3 : OwnS wq W1.heap.size u8 (ln.map (applyT true q)) := by
            have h := HO2.out
            rw [HLKE.out, List.take_of_length_le (by omega)] at h
            exact h
          clear HO2
          go_wp2_with fail
          have y00 := hy.cell b0
          refine (reverse_own W1.heap.size u8 _ wq hO3 (by rw [List.length_map]; omega)).mono ?_
          rintro e wz ⟨rfl, hO4, hxf⟩
          have hxz : Ext W1 wz := hxf W1 (Nat.le_refl _) hy
          have hO5 : OwnS wz W1.heap.size u8 (turnL true q ln) := by unfold turnL; rw [if_pos rfl]; exact hO4
          have HO3 := Lib.hid hO5
          obtain ⟨AL, capL, rfl, _, _, _⟩ := hO5.slice
          clear hO5 hO4 hO3 y00 hxf
          have y0 := hxz.cell b0
          go_wp2_with (at_builtin; refine wpList_append_own _ rfl (.tmp 50) (.tmp 55) 48 rfl (tb + 1) 57 e0 (.agg #[.string ⟨#[]⟩, .slice none 0 0]) 2 40 Tryz.underlying48 he0' hy0 hy1 hy2 rfl (by decide) u5 EL.length (ecells ps) rfl (World.ownsRow.alloc (own_ext HOR.out (hx1.trans hxz)) _) ⟨wz.heap.size, 0, none⟩ 1 1 [.string (gE l ((n - k) % n)).1, .slice AL (turnL true q ln).length capL] rfl ?c1 ?c2 ?c3 ?c4 ?c5 ?c6 ?_)
          case c1 => rfl
          case c2 => exact World.news_of_block (cs := #[.string (gE l ((n - k) % n)).1, .slice AL (turnL true q ln).length capL]) (t := 57) (fr := (0, 0)) (heap_alloc_new wz _)
          case c3 => simp [Value.oneCell']
          case c4 => unfold maxLen; omega
          case c5 => omega
          case c6 => have := hxz.size; simp; omega
          intro v' w4 hown' hgrow _
          have hch := (hx1.trans hxz).alloc (.cells #[.string (gE l ((n - k) % n)).1, .slice AL (turnL true q ln).length capL] 57)
          have hor1 := own_ext HOR.out hch
          have hO' : OwnE w4 (tb + 1) v' ((turnE true q l).take (k + 1)) := by
            rw [turnE_take hkl, ← HEL.out]
            have e : turnAt true q l k = ((gE l ((n - k) % n)).1, turnL true q ln) := by unfold turnAt turnI; rw [HLN.out, HL.out]; simp
            rw [e]
            refine ⟨ps ++ [((gE l ((n - k) % n)).1, .slice AL (turnL true q ln).length capL)], ((HPS.out.ext hch).grown hor1 (by decide) hgrow).snoc ⟨rfl, ?_⟩, ?_⟩
            · exact ((HO3.out.ext ((Ext.refl _).alloc _)).grown hor1 (by decide) hgrow).base_le hx1w
            · rw [ecells_append, List.length_append]; exact hown'
          have hx' : Ext w w4 := (hx.trans hch).grown hgrow (fun g hg => by have h1 := (World.ownsRow.lt HOR.out g hg).1; have h2 := HTB.out; omega)
          have hne : ∀ j, (w4.cell? ⟨tb, j, none⟩) = W1.cell? ⟨tb, j, none⟩ := fun j => by
            have hl1 : tb < W1.heap.size := hx1w
            have hl2 : tb < wz.heap.size := Nat.lt_of_lt_of_le hl1 hxz.size
            have h1 := World.cell?_of_block (w := wz.alloc _) (a := ⟨tb, j, none⟩) (hgrow.block tb (by simp; omega) (fun e => by have := (World.ownsRow.lt HOR.out _ e.symm).1; omega))
            rw [h1, World.cell?_alloc_lt _ _ _ hl2]
            exact hxz.cellq hl1
          have z0 : w4.cell? ⟨tb, 0, none⟩ = some (.bool true) := (hne 0).trans t0'
          have z1 : w4.cell? ⟨tb, 1, none⟩ = some (.int .i64 q) := (hne 1).trans t1'
          have HO' := Lib.hid hO'; clear hO' hown' hgrow hne
          go_wp2_with fail
          go_roundw
          case rel => exact ⟨k + 1, by omega, by go_num, HO'.out, z0, z1, hx'⟩
          case measure => simp [intOf]; omega
    · go_wp2_with fail
      go_ret
      refine ⟨_, rfl, ?_, hx⟩
      have h := HO.out
      rw [List.take_of_length_le (by rw [turnE_len, HL.out]; omega)] at h
      exact h.base_le (by have := HTB.out; omega)
theorem oturned_any (A : Option Addr) (n c : Nat) (f : Bool) (q : Int) (l : List Edge) (w : World) (ha : EdgesAt w A l) (hl : l.length = n) (hn : n ≤ 1000) (hlen : ∀ k, k < n → (gE l k).2.length ≤ 1000) :
    Calls Tryz.prog 53 #[.slice A n c, TV f q] w (RetE w (turnE f q l)) := by
  cases f
  · exact oturned_false A n c q l w ha hl hn hlen
  · exact oturned_true A n c q l w ha hl hn hlen
end Go.Proofs.YtkigmpholnfkbaaGreat
namespace Go.Proofs.YtkigmpholnfkbaaGreat
open Go.RowKit
def turnC (f : Bool) (q : Int) (n : Nat) (cs : List Spot) : List Spot := if f = true then mirC n (cs.map (applyT f q)) else cs.map (applyT f q)
def turnW (f : Bool) (n : Nat) (ws : List Int) : List Int := if f = true then mirW n ws else ws
def turnNs (f : Bool) (es : List Edge) (ns : List Spot) : List Spot := if f = true then mirNs es ns else ns
def RetT (w : World) (nm : ByteArray) (gr : Int) (mt : Bool) (E : List Edge) (C : List Spot) (I : List Int) (N : List Spot) (e : Ending) (w' : World) : Prop :=
  ∃ vE vC vW vN, e = .returned (.agg #[.string nm, vE, .int .i64 gr, vN, vC, vW, .bool mt]) ∧ OwnE w' w.heap.size vE E ∧ OwnT 62 w' w.heap.size vC C ∧ OwnI w' w.heap.size vW I ∧ OwnT 95 w' w.heap.size vN N ∧ Ext w w'
theorem mixS_map {f : Spot → Spot} {cs : List Spot} {L : List Spot} (h : L.length = cs.length) : mixS (fun p => f (gS cs p)) L cs.length = cs.map f :=
  list_ext_gS (by rw [mixS_len, List.length_map, h]) fun p hp => by
    rw [mixS_len, h] at hp
    rw [mixS_get (by omega), if_pos hp, gS_eq (l := cs.map f) (by simpa using hp), gS_eq hp]; simp
theorem pair_cells0 {t : TypeId} {w : World} {g : Nat} {L : List Spot} (h : Blk t w g (scells L)) {k : Nat} (hk : k < L.length) :
    w.cell? ⟨g, k * 2, none⟩ = some (.int .i64 (gS L k).1) ∧ w.cell? ⟨g, k * 2 + 1, none⟩ = some (.int .i64 (gS L k).2) ∧ w.frozen? ⟨g, k * 2, none⟩ = false ∧ w.frozen? ⟨g, k * 2 + 1, none⟩ = false := pair_cells (R := []) (by simpa using h) hk
theorem pair_set0 {t : TypeId} {w : World} {g : Nat} {L : List Spot} (h : Blk t w g (scells L)) {k : Nat} (hk : k < L.length) (s : Spot) :
    Blk t ((w.setCell ⟨g, k * 2, none⟩ (.int .i64 s.1)).setCell ⟨g, k * 2 + 1, none⟩ (.int .i64 s.2)) g (scells (L.set k s)) := by
  have := pair_set (R := []) (by simpa using h) hk s
  simpa using this
def turK (w1 : World) (rb k : Nat) : Prop := k = rb ∨ w1.heap.size ≤ k
theorem retT_of {w W8 W9 : World} {sb : Nat} {sc : List Value} {nm : ByteArray} {gr : Int} {mt : Bool} {E : List Edge} {C : List Spot} {I : List Int} {N : List Spot} {vE vC vW vN : Value} (hk : Kept (fun k => k = sb) W8 W9) (hS : Blk 52 W8 sb sc)
    (hE : OwnE W8 w.heap.size vE E) (hC : OwnT 62 W8 w.heap.size vC C) (hI : OwnI W8 w.heap.size vW I) (hN : OwnT 95 W8 w.heap.size vN N) (hx : Ext w W8) (hsb : w.heap.size ≤ sb) :
    RetT w nm gr mt E C I N (.returned (.agg #[.string nm, vE, .int .i64 gr, vN, vC, vW, .bool mt])) W9 := by
  refine ⟨vE, vC, vW, vN, rfl, hE.kept hk (fun b _ h => ?_), own_kept hC hk (fun b hb h => ?_), own_kept hI hk (fun b hb h => ?_), own_kept hN hk (fun b hb h => ?_), hk.ext hx (fun b h => ?_)⟩
  · subst h; exact ⟨_, _, hS, by decide, by decide⟩
  · subst h; exact own_blk_ne hC hS (by decide) hb
  · subst h; exact own_blk_ne hI hS (by decide) hb
  · subst h; exact own_blk_ne hN hS (by decide) hb
  · subst h; exact hsb
set_option maxRecDepth 100000 in
set_option maxHeartbeats 3200000 in
theorem turned_any0 (nm : ByteArray) (AE AN AC AW : Option Addr) (nE cE nN cN nC cC nW cW : Nat) (gr : Int) (mt f : Bool) (q : Int) (es : List Edge) (cs : List Spot) (ws : List Int) (ns : List Spot) (w : World)
    (hE : EdgesAt w AE es) (hlE : es.length = nE) (hnE : nE ≤ 1000) (hlen : ∀ k, k < nE → (gE es k).2.length ≤ 1000) (hC : SpotsAt w AC cs) (hlC : cs.length = nC) (hnC : nC ≤ 1000)
    (hW : IntsAt w AW ws) (hlW : ws.length = nW) (hnW : nW ≤ 1000) (hN : SpotsAt w AN ns) (hlN : ns.length = nN) (hnN : nN ≤ 1000) :
    Calls Tryz.prog 28 #[.agg #[.string nm, .slice AE nE cE, .int .i64 gr, .slice AN nN cN, .slice AC nC cC, .slice AW nW cW, .bool mt], TV f q] w (RetT w nm gr mt (turnE f q es) (turnC f q nE cs) (turnW f nE ws) (turnNs f es ns)) := by
  have HLE := Lib.hid hlE; clear hlE
  have HLC := Lib.hid hlC; clear hlC
  have HLW := Lib.hid hlW; clear hlW
  have HLN := Lib.hid hlN; clear hlN
  have HE := Lib.hid hE; clear hE
  have HC := Lib.hid hC; clear hC
  have HW := Lib.hid hW; clear hW
  have HN := Lib.hid hN; clear hN
  have HLEN := Lib.hid hlen; clear hlen
  have hmk : ∀ W : World, (Instr.makeSlice 50 (.int .i64 (nC : Int)) (.int .i64 (nC : Int))).run Tryz.prog W = .ok (.slice (some ⟨W.heap.size, 0, none⟩) nC nC) (W.alloc (.cells (scells (List.replicate nC (0, 0))).toArray 62)) := fun W => by
    have h := make_spots nC (by omega) W
    rw [made_two] at h
    simpa using h
  obtain ⟨Z, hZ⟩ : ∃ Z, Z = (scells (List.replicate nC (0, 0))).toArray := ⟨_, rfl⟩
  rw [← hZ] at hmk
  have HZ := Lib.hid hZ; clear hZ
  go_enter Tryz.func28, Tryz.ntmps28
  go_wp2_with fail
  refine (oturned_any AE nE cE f q es _ (HE.out.ext (((((Ext.refl _).alloc _).alloc _).alloc _).alloc _)) HLE.out hnE HLEN.out).mono ?_
  rintro e w1 ⟨vE, rfl, hoE, he1⟩
  have hP : Blk 52 w1 w.heap.size [.string nm, .slice AE nE cE, .int .i64 gr, .slice AN nN cN, .slice AC nC cC, .slice AW nW cW, .bool mt] := ((((Blk.new' rfl).ext ((Ext.refl _).alloc _)).ext ((Ext.refl _).alloc _)).ext ((Ext.refl _).alloc _)).ext he1
  have hT : Blk 66 w1 (w.heap.size + 1) [.bool f, .int .i64 q] := (((Blk.new' (by simp)).ext ((Ext.refl _).alloc _)).ext ((Ext.refl _).alloc _)).ext he1
  have hS : Blk 52 w1 (w.heap.size + 1 + 1) [.string ⟨#[]⟩, .slice none 0 0, .int .i64 0, .slice none 0 0, .slice none 0 0, .slice none 0 0, .bool false] := ((Blk.new' (by simp)).ext ((Ext.refl _).alloc _)).ext he1
  have hR : Blk 52 w1 (w.heap.size + 1 + 1 + 1) [.string nm, .slice AE nE cE, .int .i64 gr, .slice AN nN cN, .slice AC nC cC, .slice AW nW cW, .bool mt] := (Blk.new' (by simp)).ext he1
  have hx1 : Ext w w1 := (((((Ext.refl _).alloc _).alloc _).alloc _).alloc _).trans he1
  have hE1 : OwnE w1 w.heap.size vE (turnE f q es) := hoE.base_le (by simp; omega)
  clear he1 hoE
  obtain ⟨EE, cEE, hvE, _, _, _⟩ := hE1.slice
  subst hvE
  rw [turnE_len, HLE.out] at hE1 ⊢
  have HE1 := Lib.hid hE1; clear hE1
  have p4 := hP.cell 4
  have r1 := hR.cell 1
  have fr1 := hR.frozen 1
  have r4 := hR.cell 4
  have fr4 := hR.frozen 4
  simp only [List.getElem?_cons_succ, List.getElem?_cons_zero] at p4 r1 r4
  have hb3 : w.heap.size + 1 + 1 + 1 < w1.heap.size := hR.lt
  have hb0 : w.heap.size < w1.heap.size := hP.lt
  have HP := Lib.hid hP; have HT := Lib.hid hT; have HS := Lib.hid hS; have HR := Lib.hid hR; have HX1 := Lib.hid hx1
  clear hP hT hS hR hx1
  go_wp2_with fail
  refine wp_at fun W2 hW2 => ?_
  have hk2 : Kept (turK w1 (w.heap.size + 1 + 1 + 1)) w1 W2 := by
    rw [hW2]
    exact (((Kept.refl _ _).set (.inr (.inl rfl)) _).set (.inr (.inl rfl)) _).alloc _
  have hr2 : Blk 52 W2 (w.heap.size + 1 + 1 + 1) [.string nm, .slice EE nE cEE, .int .i64 gr, .slice AN nN cN, .slice (some ⟨w1.heap.size, 0, none⟩) nC nC, .slice AW nW cW, .bool mt] := by
    rw [hW2]
    have h := ((HR.out.set 1 (.slice EE nE cEE)).set 4 (.slice (some ⟨w1.heap.size, 0, none⟩) nC nC)).ext ((Ext.refl _).alloc (.cells Z 62))
    simpa using h
  have hg2 : Blk 62 W2 w1.heap.size (scells (List.replicate nC (0, 0))) := by
    rw [hW2, HZ.out]
    exact Blk.new' (by simp [World.setCell])
  clear hW2 p4 r1 fr1 r4 fr4 hmk
  obtain ⟨ZL, hZL⟩ : ∃ ZL, ZL = List.replicate nC ((0, 0) : Spot) := ⟨_, rfl⟩
  rw [← hZL] at hg2
  have hZll : ZL.length = cs.length := by rw [hZL, List.length_replicate, HLC.out]
  have HZL := Lib.hid hZll; clear hZL hZll
  have HEXT : Hid (∀ wr, Kept (turK w1 (w.heap.size + 1 + 1 + 1)) w1 wr → Ext w wr) := fun wr h => h.ext HX1.out (fun k hk => by rcases hk with hk | hk <;> omega)
  have hpK : ¬ turK w1 (w.heap.size + 1 + 1 + 1) w.heap.size := by rintro (h | h) <;> omega
  have htK : ¬ turK w1 (w.heap.size + 1 + 1 + 1) (w.heap.size + 1) := by rintro (h | h) <;> omega
  have hsK : ¬ turK w1 (w.heap.size + 1 + 1 + 1) (w.heap.size + 1 + 1) := by rintro (h | h) <;> omega
  have HPK := Lib.hid hpK; have HTK := Lib.hid htK; have HSK := Lib.hid hsK; clear hpK htK hsK
  go_loopw [22] (fun i wr => ∃ k : Nat, k ≤ nC ∧ i = .int .i64 k ∧ Kept (turK w1 (w.heap.size + 1 + 1 + 1)) w1 wr ∧ Blk 52 wr (w.heap.size + 1 + 1 + 1) [.string nm, .slice EE nE cEE, .int .i64 gr, .slice AN nN cN, .slice (some ⟨w1.heap.size, 0, none⟩) nC nC, .slice AW nW cW, .bool mt] ∧ Blk 62 wr w1.heap.size (scells (mixS (fun p => applyT f q (gS cs p)) ZL k))) (fun i _ => nC - (intOf i).toNat)
  case atStart => exact ⟨0, Nat.zero_le _, rfl, hk2, hr2, by rw [mixS_zero]; exact hg2⟩
  case round =>
    clear hk2 hr2 hg2
    obtain ⟨k, hk, rfl, hkw, hr, hg⟩ := hrel
    have HKW := Lib.hid hkw; have HRR := Lib.hid hr; have HG := Lib.hid hg; clear hkw hr hg
    by_cases hlt : k < nC
    · obtain ⟨b, off, rfl, i0, i1⟩ := (HC.out.ext (HEXT.out _ HKW.out)).g (k := k) (by rw [HLC.out]; exact hlt)
      go_wp2_with fail
      refine wp_at fun W3 hW3 => ?_
      have hx3 : Ext wr W3 := by rw [hW3]; exact (Ext.refl _).alloc _
      have v0 : W3.cell? ⟨wr.heap.size, 0, none⟩ = some (.int .i64 (gS cs k).1) := by rw [hW3]; simp [go_sem]
      have v1 : W3.cell? ⟨wr.heap.size, 1, none⟩ = some (.int .i64 (gS cs k).2) := by rw [hW3]; simp [go_sem]
      have r4 := (HRR.out.ext hx3).cell 4
      have t0 := ((HKW.out.blk HT.out HTK.out).ext hx3).cell 0
      have t1 := ((HKW.out.blk HT.out HTK.out).ext hx3).cell 1
      simp only [List.getElem?_cons_succ, List.getElem?_cons_zero] at r4 t0 t1
      have HX3 := Lib.hid hx3; clear hx3 hW3 i0 i1
      have d0 := fun z : After W3 => After.cell v0 z
      have d1 := fun z : After W3 => After.cell v1 z
      have d2 := fun z : After W3 => After.cell r4 z
      have d3 := fun z : After W3 => After.cell t0 z
      have d4 := fun z : After W3 => After.cell t1 z
      refine region_tail 7 (by kernel_rfl) (by kernel_rfl) ?_
      simp only [List.take_succ_cons, List.take_zero, List.drop_succ_cons, List.drop_zero]
      repeat (go_big_quiet_step ((go_at_call 54; exact after_call (apply_any f q (gS cs k) _))))
      refine wpQuiet_nil ?_
      rintro w4 ⟨⟨_, he⟩, rfl⟩
      clear d0 d1 d2 d3 d4 v0 v1 r4 t0 t1
      have hx4 : Ext wr w4 := HX3.out.trans he
      have HG4 := Lib.hid (HG.out.ext hx4)
      obtain ⟨c0, c1, f0, f1⟩ := pair_cells0 HG4.out (k := k) (by rw [mixS_len, HZL.out, HLC.out]; exact hlt)
      have HX4 := Lib.hid hx4; clear hx4 he
      go_wp2_with fail
      go_roundw
      case rel =>
        refine ⟨k + 1, by omega, by go_num, ?_, ?_, ?_⟩
        · exact ((HKW.out.trans (HX4.out.kept _)).set (.inr (.inr (Nat.le_refl _))) _).set (.inr (.inr (Nat.le_refl _))) _
        · exact ((HRR.out.ext HX4.out).other (by simp; omega) _).other (by simp; omega) _
        · have h := pair_set0 HG4.out (k := k) (by rw [mixS_len, HZL.out, HLC.out]; exact hlt) (applyT f q (gS cs k))
          rw [mixS_succ (f := fun p => applyT f q (gS cs p)) (by rw [HZL.out, HLC.out]; exact hlt)] at h
          exact h
      case measure => simp [intOf]; omega
    · obtain rfl : k = nC := by omega
      have p5 := (HKW.out.blk HP.out HPK.out).cell 5
      simp only [List.getElem?_cons_succ, List.getElem?_cons_zero] at p5
      go_wp2_with fail
      refine (clone_ints AW nW cW ws _ (HW.out.ext (HEXT.out _ HKW.out)) HLW.out (by omega)).mono ?_
      rintro e w5 ⟨vW, rfl, hoW, he5⟩
      obtain ⟨WW, cWW, hvW, _, _, _⟩ := hoW.slice
      rw [HLW.out] at hvW
      subst hvW
      have HK5 := Lib.hid (HKW.out.trans (he5.kept _))
      have HR5 := Lib.hid (HRR.out.ext he5)
      have HG5 := Lib.hid (HG.out.ext he5)
      have hsz5 : w1.heap.size < w5.heap.size := HG5.out.lt
      have hszr : w1.heap.size < wr.heap.size := HG.out.lt
      have HOW := Lib.hid hoW
      clear hoW he5 p5
      have r5 := HR5.out.cell 5
      have fr5 := HR5.out.frozen 5
      have p3 := (HK5.out.blk HP.out HPK.out).cell 3
      simp only [List.getElem?_cons_succ, List.getElem?_cons_zero] at r5 p3
      go_wp2_with fail
      have HK5' := Lib.hid (HK5.out.set (p := ⟨w.heap.size + 1 + 1 + 1, 5, none⟩) (.inr (.inl rfl)) (.slice WW nW cWW))
      refine (clone_notches AN nN cN ns _ (HN.out.ext (HEXT.out _ HK5'.out)) HLN.out (by omega)).mono ?_
      rintro e w6 ⟨vN, rfl, hoN, he6⟩
      have hvN : ∃ NN cNN, vN = .slice NN nN cNN := by
        rcases hoN.2 with ⟨h, h0⟩ | ⟨g, cap, cur, h, _⟩
        · rw [HLN.out] at h0; subst h0; exact ⟨_, _, h⟩
        · rw [HLN.out] at h; exact ⟨_, _, h⟩
      obtain ⟨NN, cNN, hvN⟩ := hvN
      subst hvN
      have HK6 := Lib.hid (HK5'.out.trans (he6.kept _))
      have HR6 := Lib.hid ((HR5.out.set 5 (.slice WW nW cWW)).ext he6)
      have HG6 := Lib.hid ((HG5.out.other (p := ⟨w.heap.size + 1 + 1 + 1, 5, none⟩) (by simp; omega) (.slice WW nW cWW)).ext he6)
      have HOW6 : Hid (OwnI w6 w.heap.size (.slice WW nW cWW) ws) := own_base_le (own_ext (own_set HOW.out (p := ⟨w.heap.size + 1 + 1 + 1, 5, none⟩) (fun h => by have := own_ge HOW.out h; simp at this; omega) (.slice WW nW cWW)) he6) (by omega)
      have HON : Hid (OwnT 95 w6 w1.heap.size (.slice NN nN cNN) ns) := own_base_le hoN (by simp [World.setCell]; omega)
      have hsz6 : w1.heap.size < w6.heap.size := HG6.out.lt
      clear hoN he6 r5 fr5 p3
      have r3 := HR6.out.cell 3
      have fr3 := HR6.out.frozen 3
      have t0 := (HK6.out.blk HT.out HTK.out).cell 0
      simp only [List.set_cons_succ, List.set_cons_zero, List.getElem?_cons_succ, List.getElem?_cons_zero] at r3 t0
      have HK7 := Lib.hid (HK6.out.set (p := ⟨w.heap.size + 1 + 1 + 1, 3, none⟩) (.inr (.inl rfl)) (.slice NN nN cNN))
      have HR7 : Hid (Blk 52 (w6.setCell ⟨w.heap.size + 1 + 1 + 1, 3, none⟩ (.slice NN nN cNN)) (w.heap.size + 1 + 1 + 1) [.string nm, .slice EE nE cEE, .int .i64 gr, .slice NN nN cNN, .slice (some ⟨w1.heap.size, 0, none⟩) k k, .slice WW nW cWW, .bool mt]) := by
        have h := HR6.out.set 3 (.slice NN nN cNN)
        simp at h
        exact h
      have HC7 : Hid (OwnT 62 (w6.setCell ⟨w.heap.size + 1 + 1 + 1, 3, none⟩ (.slice NN nN cNN)) w.heap.size (.slice (some ⟨w1.heap.size, 0, none⟩) k k) (cs.map (applyT f q))) := by
        have h := own_of_blk (base := w.heap.size) (HG6.out.other (p := ⟨w.heap.size + 1 + 1 + 1, 3, none⟩) (by simp; omega) (.slice NN nN cNN)) (by omega) (by rw [mixS_len, HZL.out, HLC.out]; omega)
        rw [mixS_len, HZL.out, HLC.out] at h
        rwa [show k = cs.length from HLC.out.symm, mixS_map HZL.out, ← show k = cs.length from HLC.out.symm] at h
      have HI7 : Hid (OwnI (w6.setCell ⟨w.heap.size + 1 + 1 + 1, 3, none⟩ (.slice NN nN cNN)) w.heap.size (.slice WW nW cWW) ws) := own_set HOW6.out (fun h => own_blk_ne HOW6.out HR6.out (by decide) h) _
      have HN7 : Hid (OwnT 95 (w6.setCell ⟨w.heap.size + 1 + 1 + 1, 3, none⟩ (.slice NN nN cNN)) w.heap.size (.slice NN nN cNN) ns) := own_base_le (own_set HON.out (fun h => own_blk_ne HON.out HR6.out (by decide) h) _) (by omega)
      have HE7 : Hid (OwnE (w6.setCell ⟨w.heap.size + 1 + 1 + 1, 3, none⟩ (.slice NN nN cNN)) w.heap.size (.slice EE nE cEE) (turnE f q es)) := HE1.out.kept HK7.out (fun b hb h => by
        rcases h with h | h
        · subst h; exact ⟨_, _, HR.out, by decide, by decide⟩
        · omega)
      cases f
      · obtain ⟨W8, hW8⟩ : ∃ W8, W8 = w6.setCell ⟨w.heap.size + 1 + 1 + 1, 3, none⟩ (.slice NN nN cNN) := ⟨_, rfl⟩
        go_upto_if 44 with fail
        refine wp_at fun W8' hW8' => ?_
        rw [← hW8] at hW8' HK7 HR7 HC7 HI7 HN7 HE7
        subst hW8'
        have HR8 := Lib.hid HR7.out
        have HS8 := Lib.hid (HK7.out.blk HS.out HSK.out)
        clear hW8 r3 fr3 t0
        have q0 := HR8.out.cell 0
        have q1 := HR8.out.cell 1
        have q2 := HR8.out.cell 2
        have q3 := HR8.out.cell 3
        have q4 := HR8.out.cell 4
        have q5 := HR8.out.cell 5
        have q6 := HR8.out.cell 6
        have s0 := HS8.out.cell 0
        have s1 := HS8.out.cell 1
        have s2 := HS8.out.cell 2
        have s3 := HS8.out.cell 3
        have s4 := HS8.out.cell 4
        have s5 := HS8.out.cell 5
        have s6 := HS8.out.cell 6
        have e0 := HS8.out.frozen 0
        have e1 := HS8.out.frozen 1
        have e2 := HS8.out.frozen 2
        have e3 := HS8.out.frozen 3
        have e4 := HS8.out.frozen 4
        have e5 := HS8.out.frozen 5
        have e6 := HS8.out.frozen 6
        simp only [List.getElem?_cons_succ, List.getElem?_cons_zero] at q0 q1 q2 q3 q4 q5 q6 s0 s1 s2 s3 s4 s5 s6
        go_wp2_with fail
        refine bodyPost_ret (v := .agg #[.string nm, .slice EE nE cEE, .int .i64 gr, .slice NN nN cNN, .slice (some ⟨w1.heap.size, 0, none⟩) k k, .slice WW nW cWW, .bool mt]) (by simp [results, Tryz.results28, go_sem, s0, s1, s2, s3, s4, s5, s6]) rfl ?_
        refine retT_of (W8 := W8') (sb := w.heap.size + 1 + 1) ?_ HS8.out HE7.out HC7.out HI7.out HN7.out (HEXT.out _ HK7.out) (by omega)
        exact kset (kset (kset (kset (kset (kset (kset (Kept.refl _ _) _ _) _ _) _ _) _ _) _ _) _ _) _ _
      · obtain ⟨W8, hW8⟩ : ∃ W8, W8 = w6.setCell ⟨w.heap.size + 1 + 1 + 1, 3, none⟩ (.slice NN nN cNN) := ⟨_, rfl⟩
        go_upto_if 44 with fail
        refine wp_at fun W8' hW8' => ?_
        rw [← hW8] at hW8' HK7 HR7 HC7 HI7 HN7 HE7
        subst hW8'
        have HP8 := Lib.hid (HK7.out.blk HP.out HPK.out)
        clear hW8 r3 fr3 t0
        have p0 := HP8.out.cell 0
        have p1 := HP8.out.cell 1
        have p2 := HP8.out.cell 2
        have p3 := HP8.out.cell 3
        have p4 := HP8.out.cell 4
        have p5 := HP8.out.cell 5
        have p6 := HP8.out.cell 6
        simp only [List.getElem?_cons_succ, List.getElem?_cons_zero] at p0 p1 p2 p3 p4 p5 p6
        go_wp2_with fail
        refine (mirror_any nm nm AE AN AC AW (some ⟨w1.heap.size, 0, none⟩) WW NN nE cE nN cN k cC nW cW k cWW cNN gr gr mt mt (.slice EE nE cEE) es (cs.map (applyT true q)) ws ns w W8' w.heap.size (w.heap.size + 1 + 1 + 1) (HEXT.out _ HK7.out) (Nat.le_refl _) (Ext.size (HEXT.out _ HK7.out)) HE.out HLE.out hnE HW.out HLW.out hnW HN.out HLN.out hnN hnC HC7.out HI7.out HN7.out HR7.out).mono ?_
        rintro e w9 ⟨rfl, hC9, hI9, hN9, hk9, hx9⟩
        clear p0 p1 p2 p3 p4 p5 p6
        have hmK : ∀ b, mirK (.slice (some ⟨w1.heap.size, 0, none⟩) k k) (.slice WW nW cWW) (.slice NN nN cNN) b → w1.heap.size ≤ b := by
          rintro b (h | h | h)
          · simp [Value.ownBlock] at h; omega
          · have := own_ge HOW.out h; omega
          · exact own_ge HON.out h
        have hK9 : Kept (turK w1 (w.heap.size + 1 + 1 + 1)) w1 w9 := HK7.out.trans (hk9.mono fun b _ h => .inr (hmK b h))
        have hR9 : Blk 52 w9 (w.heap.size + 1 + 1 + 1) _ := hk9.blk HR7.out (fun h => by have := hmK _ h; omega)
        have hS9 : Blk 52 w9 (w.heap.size + 1 + 1) _ := hK9.blk HS.out HSK.out
        have hE9 : OwnE w9 w.heap.size (.slice EE nE cEE) (turnE true q es) := HE1.out.kept hK9 (fun b hb h => by
          rcases h with h | h
          · subst h; exact ⟨_, _, HR.out, by decide, by decide⟩
          · omega)
        have HR8 := Lib.hid hR9; have HS8 := Lib.hid hS9; have HE9 := Lib.hid hE9; have HC9 := Lib.hid hC9; have HI9 := Lib.hid hI9; have HN9 := Lib.hid hN9; have HX9 := Lib.hid hx9
        clear hR9 hS9 hE9 hC9 hI9 hN9 hx9 hK9 hk9 hmK
        have q0 := HR8.out.cell 0
        have q1 := HR8.out.cell 1
        have q2 := HR8.out.cell 2
        have q3 := HR8.out.cell 3
        have q4 := HR8.out.cell 4
        have q5 := HR8.out.cell 5
        have q6 := HR8.out.cell 6
        have s0 := HS8.out.cell 0
        have s1 := HS8.out.cell 1
        have s2 := HS8.out.cell 2
        have s3 := HS8.out.cell 3
        have s4 := HS8.out.cell 4
        have s5 := HS8.out.cell 5
        have s6 := HS8.out.cell 6
        have e0 := HS8.out.frozen 0
        have e1 := HS8.out.frozen 1
        have e2 := HS8.out.frozen 2
        have e3 := HS8.out.frozen 3
        have e4 := HS8.out.frozen 4
        have e5 := HS8.out.frozen 5
        have e6 := HS8.out.frozen 6
        simp only [List.getElem?_cons_succ, List.getElem?_cons_zero] at q0 q1 q2 q3 q4 q5 q6 s0 s1 s2 s3 s4 s5 s6
        go_wp2_with fail
        refine bodyPost_ret (v := .agg #[.string nm, .slice EE nE cEE, .int .i64 gr, .slice NN nN cNN, .slice (some ⟨w1.heap.size, 0, none⟩) k k, .slice WW nW cWW, .bool mt]) (by simp [results, Tryz.results28, go_sem, s0, s1, s2, s3, s4, s5, s6]) rfl ?_
        refine retT_of (W8 := w9) (sb := w.heap.size + 1 + 1) ?_ HS8.out HE9.out HC9.out HI9.out HN9.out HX9.out (by omega)
        exact kset (kset (kset (kset (kset (kset (kset (Kept.refl _ _) _ _) _ _) _ _) _ _) _ _) _ _) _ _
theorem turned_any (nm : ByteArray) (AE AN AC AW : Option Addr) (nE cE nN cN nC cC nW cW : Nat) (gr : Int) (mt f : Bool) (q : Int) (es : List Edge) (cs : List Spot) (ws : List Int) (ns : List Spot) (w : World)
    (hE : EdgesAt w AE es) (hlE : es.length = nE) (hnE : nE ≤ 1000) (hlen : ∀ k, k < nE → (gE es k).2.length ≤ 1000) (hC : SpotsAt w AC cs) (hlC : cs.length = nC) (hnC : nC ≤ 1000)
    (hW : IntsAt w AW ws) (hlW : ws.length = nW) (hnW : nW ≤ 1000) (hN : SpotsAt w AN ns) (hlN : ns.length = nN) (hnN : nN ≤ 1000) (_ : plainA AW) (_ : plainA AN) :
    Calls Tryz.prog 28 #[.agg #[.string nm, .slice AE nE cE, .int .i64 gr, .slice AN nN cN, .slice AC nC cC, .slice AW nW cW, .bool mt], TV f q] w (RetT w nm gr mt (turnE f q es) (turnC f q nE cs) (turnW f nE ws) (turnNs f es ns)) :=
  turned_any0 nm AE AN AC AW nE cE nN cN nC cC nW cW gr mt f q es cs ws ns w hE hlE hnE hlen hC hlC hnC hW hlW hnW hN hlN hnN
end Go.Proofs.YtkigmpholnfkbaaGreat
