/- slices.Reverse over spots, in place, on a row of the call's own -/
import Derived.RegionTactic
import Derived.Test.YtfegbaokcbjllaaGreatKOwnI
namespace Go.Proofs.YtfegbaokcbjllaaGreat
open Go.RowKit
def RowS (w : World) (g : Nat) (L : List Spot) (R : List Value) : Prop := w.heap[g]? = some (.cells (scells L ++ R).toArray 49 (0, 0))
theorem RowS.cell {w : World} {g : Nat} {L : List Spot} {R : List Value} (h : RowS w g L R) {k : Nat} (hk : k < L.length) :
  w.cell? ⟨g, k * 2, none⟩ = some (.int .i64 (gS L k).1) ∧ w.cell? ⟨g, k * 2 + 1, none⟩ = some (.int .i64 (gS L k).2) := by
 unfold RowS at h
 have e0 : (scells L ++ R)[k * 2]? = some (.int .i64 (gS L k).1) := by
  rw [List.getElem?_append_left (by rw [scells_length]; omega), scells_even, List.getElem?_eq_getElem hk, gS_eq hk]; rfl
 have e1 : (scells L ++ R)[k * 2 + 1]? = some (.int .i64 (gS L k).2) := by
  rw [List.getElem?_append_left (by rw [scells_length]; omega), scells_odd, List.getElem?_eq_getElem hk, gS_eq hk]; rfl
 simp only [World.cell?, h, Option.isSome_none, Bool.false_eq_true, if_false, List.getElem?_toArray, e0, e1]
 exact ⟨trivial, trivial⟩
theorem RowS.frozen {w : World} {g : Nat} {L : List Spot} {R : List Value} (h : RowS w g L R) (j : Nat) : w.frozen? ⟨g, j, none⟩ = false := by
 unfold RowS at h
 simp [World.frozen?, h]
theorem RowS.set {w : World} {g : Nat} {L : List Spot} {R : List Value} (h : RowS w g L R) {k : Nat} (hk : k < L.length) (s : Spot) : RowS ((w.setCell ⟨g, k * 2, none⟩ (.int .i64 s.1)).setCell ⟨g, k * 2 + 1, none⟩ (.int .i64 s.2)) g (L.set k s) R := by
 unfold RowS at h ⊢
 rw [← scells_set]
 have e : ((scells L).set (k * 2) (.int .i64 s.1)).set (k * 2 + 1) (.int .i64 s.2) ++ R = ((scells L ++ R).set (k * 2) (.int .i64 s.1)).set (k * 2 + 1) (.int .i64 s.2) := by
  rw [List.set_append_left _ _ (by rw [scells_length]; omega), List.set_append_left _ _ (by rw [List.length_set, scells_length]; omega)]
 rw [e]
 simp [World.setCell, Array.getElem?_modify, h]
/- after k rounds -/
def revK (L : List Spot) (k : Nat) : List Spot := (List.range L.length).map fun p => if p < k ∨ L.length - k ≤ p then gS L (L.length - 1 - p) else gS L p
theorem revK_len (L : List Spot) (k : Nat) : (revK L k).length = L.length := by simp [revK]
theorem revK_get {L : List Spot} {k p : Nat} (hp : p < L.length) : gS (revK L k) p = if p < k ∨ L.length - k ≤ p then gS L (L.length - 1 - p) else gS L p := by
 simp [gS, revK, hp]
theorem revK_zero (L : List Spot) : revK L 0 = L := list_ext_gS (revK_len L 0) fun p hp => by
 rw [revK_len] at hp
 rw [revK_get hp, if_neg (by omega)]
theorem revK_done {L : List Spot} {k : Nat} (h : L.length ≤ 2 * k + 1) (hk : k ≤ L.length) : revK L k = L.reverse := list_ext_gS (by rw [revK_len, List.length_reverse]) fun p hp => by
 rw [revK_len] at hp
 rw [revK_get hp]
 have e : gS L.reverse p = gS L (L.length - 1 - p) := by
  rw [gS_eq (by simpa using hp), List.getElem_reverse, gS_eq (by omega)]
 rw [e]
 split
 ·rfl
 ·rename_i h1
  congr 1; omega
theorem revK_succ {L : List Spot} {k : Nat} (h : k < L.length - 1 - k) : ((revK L k).set k (gS (revK L k) (L.length - 1 - k))).set (L.length - 1 - k) (gS (revK L k) k) = revK L (k + 1) :=
 list_ext_gS (by simp [revK_len]) fun p hp => by
  simp [revK_len] at hp
  rw [gS_set (by simp [revK_len]; omega), gS_set (by rw [revK_len]; omega), revK_get (k := k + 1) hp, revK_get (p := k) (by omega), revK_get (p := L.length - 1 - k) (by omega), revK_get hp]
  by_cases h1 : p = L.length - 1 - k
  ·rw [if_pos h1, if_neg (by omega), if_pos (by omega)]; congr 1; omega
  ·rw [if_neg h1]
   by_cases h2 : p = k
   ·rw [if_pos h2, if_neg (by omega), if_pos (by omega)]; congr 1; omega
   ·rw [if_neg h2]
    by_cases h3 : p < k ∨ L.length - k ≤ p
    ·rw [if_pos h3, if_pos (by omega)]
    ·rw [if_neg h3, if_neg (by omega)]
/- only block g has turned -/
def Only (g : Nat) (w w' : World) : Prop := w.grownBy w' (some g)
theorem Only.refl (g : Nat) (w : World) : Only g w w := World.grownBy.refl w _
theorem Only.drew {g : Nat} {a w : World} (h : Only g a w) : Only g a w.drew := ⟨h.os, h.tape, h.output, h.size, h.block⟩
theorem Only.setCell {g : Nat} {a w : World} (h : Only g a w) (j : Nat) (u : Value) : Only g a (w.setCell ⟨g, j, none⟩ u) :=
 ⟨h.os, h.tape, h.output, by simpa [World.setCell] using h.size, fun i hi hne => (Below.heap_setCell w ⟨g, j, none⟩ u i (by rintro rfl; exact hne rfl)).trans (h.block i hi hne)⟩
set_option maxRecDepth 100000 in
set_option maxHeartbeats 1600000 in
theorem reverse_any (g n c : Nat) (L : List Spot) (R : List Value) (w : World) (hR : RowS w g L R) (hl : L.length = n) (hn : n ≤ 1000000) :
  Calls Tryz.prog 34 #[.slice (some ⟨g, 0, none⟩) n c] w fun e w' => e = .returned (.tuple #[]) ∧ RowS w' g L.reverse R ∧ Only g w w' := by
 have HL := Lib.hid hl; clear hl
 have HR := Lib.hid hR; clear hR
 go_enter Tryz.func34, Tryz.ntmps34
 go_wp2_with fail
 go_loopw [2, 3] (fun i j wr => ∃ k : Nat, 2 * k ≤ n + 1 ∧ i = .int .i64 k ∧ j = .int .i64 ((n : Int) - 1 - k) ∧ RowS wr g (revK L k) R ∧ Only g w wr) (fun i _ _ => n - (intOf i).toNat)
 case atStart => exact ⟨0, by omega, rfl, by simp, by rw [revK_zero]; exact HR.out, Only.refl _ _⟩
 case round =>
  obtain ⟨k, hk, rfl, rfl, hB, ho⟩ := hrel
  have HB := Lib.hid hB; clear hB
  by_cases hlt : k < n - 1 - k
  ·have hlt' : (k : Int) < (n : Int) - 1 - k := by omega
   obtain ⟨m, hm⟩ : ∃ m, n = m + 1 + k := ⟨n - 1 - k, by omega⟩
   subst hm
   have hjm : (((m + 1 + k : Nat) : Int) - 1 - k) = m := by omega
   rw [hjm] at hlt' ⊢
   obtain ⟨c0, c1⟩ := HB.out.cell (k := k) (by rw [revK_len, HL.out]; omega)
   obtain ⟨d0, d1⟩ := HB.out.cell (k := m) (by rw [revK_len, HL.out]; omega)
   have f0 := HB.out.frozen (k * 2)
   have f1 := HB.out.frozen (k * 2 + 1)
   have f2 := HB.out.frozen (m * 2)
   have f3 := HB.out.frozen (m * 2 + 1)
   have hkm : k < m := by omega
   clear hjm
   go_wp2_with fail
   go_region
   go_wp2_with fail
   go_roundw
   case rel =>
    refine ⟨k + 1, by omega, by go_num, by congr 1; omega, ?_, ?_⟩
    ·have h := (HB.out.set (k := k) (by rw [revK_len, HL.out]; omega) (gS (revK L k) m)).set (k := m) (by rw [List.length_set, revK_len, HL.out]; omega) (gS (revK L k) k)
     have e : L.length - 1 - k = m := by rw [HL.out]; omega
     have h2 := revK_succ (L := L) (k := k) (by rw [e]; exact hkm)
     rw [e] at h2
     rw [h2] at h
     exact h
    ·first
      |exact (((ho.drew.setCell _ _).setCell _ _).setCell _ _).setCell _ _
      |exact ((((ho.setCell _ _).setCell _ _).setCell _ _).setCell _ _).drew
   case measure => simp [intOf]; omega
  ·have hlt' : ¬ (k : Int) < (n : Int) - 1 - k := by omega
   go_wp2_with fail
   go_end0
   refine ⟨rfl, ?_, ho⟩
   rw [← revK_done (L := L) (k := k) (by rw [HL.out]; omega) (by rw [HL.out]; omega)]
   exact HB.out
theorem reverse_empty (A : Option Addr) (c : Nat) (w : World) :
  Calls Tryz.prog 34 #[.slice A 0 c] w fun e w' => e = .returned (.tuple #[]) ∧ w = w' := by
 go_enter Tryz.func34, Tryz.ntmps34
 go_wp2_with fail
 go_loop [2, 3] (fun i j => i = .int .i64 0 ∧ j = .int .i64 (-1)) (fun _ _ => 0)
 case atStart => exact ⟨rfl, rfl⟩
 case round =>
  obtain ⟨rfl, rfl⟩ := hrel
  go_wp2_with fail
  go_end0
  exact ⟨rfl, rfl⟩
theorem OwnS.row {w : World} {base : Nat} {v : Value} {L : List Spot} (h : OwnS w base v L) :
  (v = .slice none 0 0 ∧ L = []) ∨ ∃ g cap R, v = .slice (some ⟨g, 0, none⟩) L.length cap ∧ base ≤ g ∧ g < w.heap.size ∧ RowS w g L R ∧ L.length ≤ cap ∧ cap ≤ 9223372036854775807 ∧ L.length * 2 + R.length = cap * 2 := by
 rcases h.2 with ⟨rfl, h0⟩ | ⟨g, cap, cur, rfl, hb, hh, hn, hm, hs, ht⟩
 ·exact .inl ⟨rfl, List.eq_nil_of_length_eq_zero h0⟩
 ·refine .inr ⟨g, cap, cur.toList.drop (L.length * 2), rfl, hb, ?_, ?_, hn, hm, ?_⟩
  ·rcases Nat.lt_or_ge g w.heap.size with hl | hl
   ·exact hl
   ·rw [Array.getElem?_eq_none hl] at hh; cases hh
  ·unfold RowS; rw [← ht, List.take_append_drop]; exact hh
  ·have hl : cur.toList.length = cap * 2 := by simpa using hs
   rw [List.length_drop]; omega
theorem RowS.own {w : World} {g base cap : Nat} {L : List Spot} {R : List Value} (h : RowS w g L R) (hb : base ≤ g) (hn : L.length ≤ cap) (hm : cap ≤ 9223372036854775807) (hs : L.length * 2 + R.length = cap * 2) : OwnS w base (.slice (some ⟨g, 0, none⟩) L.length cap) L :=
 ⟨scells_length L, .inr ⟨g, cap, (scells L ++ R).toArray, rfl, hb, h, hn, hm, by simp [scells_length]; exact hs, by simp [← scells_length]⟩⟩
theorem Ext.only {a b c : World} {g : Nat} (h : Ext a b) (ho : Only g b c) (hg : a.heap.size ≤ g) : Ext a c := h.grown ho (fun k hk => by injection hk with hk; omega)
/- Reverse, whatever the row is -/
def RetRev (w : World) (base : Nat) (v : Value) (L : List Spot) (e : Ending) (w' : World) : Prop := e = .returned (.tuple #[]) ∧ OwnS w' base v L.reverse ∧ ∀ a : World, a.heap.size ≤ base → Ext a w → Ext a w'
theorem reverse_own (base : Nat) (v : Value) (L : List Spot) (w : World) (h : OwnS w base v L) (hn : L.length ≤ 1000000) :
  Calls Tryz.prog 34 #[v] w (RetRev w base v L) := by
 rcases h.row with ⟨rfl, rfl⟩ | ⟨g, cap, R, rfl, hb, _, hr, h1, h2, h3⟩
 ·exact (reverse_empty none 0 w).mono fun e w' ⟨he, hw⟩ => by subst hw; exact ⟨he, OwnS.nil _ _, fun _ _ h => h⟩
 ·refine (reverse_any g _ cap L R w hr rfl hn).mono fun e w' ⟨he, hr', ho⟩ => ⟨he, ?_, fun a ha hx => hx.only ho (by omega)⟩
  have h4 := hr'.own (base := base) (cap := cap) hb (by simpa using h1) h2 (by simpa using h3)
  rwa [List.length_reverse] at h4
end Go.Proofs.YtfegbaokcbjllaaGreat
