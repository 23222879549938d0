/- garmentref23.SameIssues; issues in a row -/
import Derived.Test.YtliijigdbpmpaaaGreatKFld
import Derived.Test.YtliijigdbpmpaaaGreatKUpto
import Derived.Test.YtliijigdbpmpaaaGreatKUnm
import Derived.Test.YtliijigdbpmpaaaGreatKSameI
import Derived.Test.YtliijigdbpmpaaaGreatKSpots
/- garmentlaw23.wedge -/
namespace Go.Proofs.YtliijigdbpmpaaaGreat
open Go.RowKit
def hemN : ByteArray := ⟨#[104, 101, 109]⟩
def sideN : ByteArray := ⟨#[115, 105, 100, 101]⟩
def wdP : Pc := ⟨[(hemN, [(0, 0), (8, 0)]), (sideN, [(8, 0), (8, 6), (0, 0)])], [(0, 0), (4, 0)], [], [(0, 2000), (1, 6000)]⟩
def wdB : Pc := ⟨[(hemN, [(0, 0), (8, 0)]), (sideN, [(8, 0), (8, 6), (0, 0)])], [(0, 0), (4, 0)], [], [(0, 8001), (1, 6000)]⟩
def wdS : Sty := ⟨[0, 1], [wdP], [⟨0, 0, 0, 0, false, 0⟩]⟩
def wdT : Sty := ⟨[0], [wdP], [⟨0, 0, 0, 0, true, 0⟩]⟩
theorem wd_e0 : plE wdP 0 = 0 := by decide +kernel
theorem wd_e1 : plE wdP 1 = 0 := by decide +kernel
theorem wd_l0 : plL wdP 0 = [2000, 6000] := by decide +kernel
theorem wd_l1 : plL wdP 1 = [3000, 6744] := by decide +kernel
theorem wd_eb : plE wdB 0 = 3 := by decide +kernel
theorem wd_se : unmE wdS 1 = 0 := by decide +kernel
theorem wd_sl : unmL wdS 1 = [] := by decide +kernel
theorem wd_te : unmE wdT 0 = 0 := by decide +kernel
theorem wd_tl : unmL wdT 0 = [(1, 0, 0), (2, 0, 0)] := by decide +kernel
theorem wd_t1 : unmE wdT 1 = 3 := by decide +kernel
theorem wd_s1 : spL wdP 1 = [(3, 0), gS (spL wdP 1) 1] := by decide +kernel
/- the blocks of the wedge, from block b on; x is the first notch's place -/
structure WdB (W : World) (b : Nat) (x : Int) : Prop where
  h : Blk 57 W b (scells [(0, 0), (8, 0)])
  s : Blk 57 W (b + 1) (scells [(8, 0), (8, 6), (0, 0)])
  e : Blk 67 W (b + 1 + 1) [.string hemN, .slice (some ⟨b, 0, none⟩) 2 2, .string sideN, .slice (some ⟨b + 1, 0, none⟩) 3 3]
  c : Blk 57 W (b + 1 + 1 + 1) (scells [(0, 0), (4, 0)])
  n : Blk 55 W (b + 1 + 1 + 1 + 1) (scells [(0, x), (1, 6000)])
theorem WdB.ext {W W' : World} {b : Nat} {x : Int} (h : WdB W b x) (he : Ext W W') : WdB W' b x := ⟨h.h.ext he, h.s.ext he, h.e.ext he, h.c.ext he, h.n.ext he⟩
theorem WdB.kept {K : Nat → Prop} {W W' : World} {b : Nat} {x : Int} (h : WdB W b x) (he : Kept K W W') (hk : ∀ k, b ≤ k → ¬ K k) : WdB W' b x :=
  ⟨he.blk h.h (hk _ (by omega)), he.blk h.s (hk _ (by omega)), he.blk h.e (hk _ (by omega)), he.blk h.c (hk _ (by omega)), he.blk h.n (hk _ (by omega))⟩
def wdA (b : Nat) : PcA := ⟨⟨#[]⟩, some ⟨b + 1 + 1, 0, none⟩, 2, 2, 0, some ⟨b + 1 + 1 + 1 + 1, 0, none⟩, 2, 2, some ⟨b + 1 + 1 + 1, 0, none⟩, 2, 2, none, 0, 0, false⟩
def wdX (x : Int) : Pc := ⟨[(hemN, [(0, 0), (8, 0)]), (sideN, [(8, 0), (8, 6), (0, 0)])], [(0, 0), (4, 0)], [], [(0, x), (1, 6000)]⟩
theorem spots_blk {t : TypeId} {W : World} {g : Nat} {l : List Spot} (h : Blk t W g (scells l)) : SpotsAt W (some ⟨g, 0, none⟩) l := SpotsAt.of_cells fun j u hu => by rw [Nat.zero_add, h.cell]; exact hu
theorem WdB.at {W : World} {b : Nat} {x : Int} (h : WdB W b x) : PcAt W (wdA b) (wdX x) := by
  refine ⟨fun k hk => ?_, rfl, Nat.le_refl _, Nat.le_of_ble_eq_true rfl, spots_blk h.c, rfl, Nat.le_of_ble_eq_true rfl, IntsAt.nil, rfl, spots_blk h.n, rfl, Nat.le_of_ble_eq_true rfl, Nat.le_of_ble_eq_true rfl⟩
  match k, hk with
  | 0, _ => exact ⟨b + 1 + 1, 0, some ⟨b, 0, none⟩, 2, rfl, h.e.cell 0, h.e.cell 1, spots_blk h.h, Nat.le_refl _, Nat.le_of_ble_eq_true rfl⟩
  | 1, _ => exact ⟨b + 1 + 1, 0, some ⟨b + 1, 0, none⟩, 3, rfl, h.e.cell 2, h.e.cell 3, spots_blk h.s, Nat.le_refl _, Nat.le_of_ble_eq_true rfl⟩
def RetWd (w : World) (e : Ending) (w' : World) : Prop := e = .returned (PcA.val (wdA (w.heap.size + 1))) ∧ WdB w' (w.heap.size + 1) 2000 ∧ Ext w w'
def wdW (w : World) : World :=
  ((((((w.alloc (.cells #[.string ⟨#[]⟩, .slice (some ⟨w.heap.size + 1 + 1 + 1, 0, none⟩) 2 2, .int .i64 0, .slice (some ⟨w.heap.size + 1 + 1 + 1 + 1 + 1, 0, none⟩) 2 2, .slice (some ⟨w.heap.size + 1 + 1 + 1 + 1, 0, none⟩) 2 2, .slice none 0 0, .bool false] 27)).alloc
    (.cells #[.int .i64 0, .int .i64 0, .int .i64 8, .int .i64 0] 57)).alloc
    (.cells #[.int .i64 8, .int .i64 0, .int .i64 8, .int .i64 6, .int .i64 0, .int .i64 0] 57)).alloc
    (.cells #[.string hemN, .slice (some ⟨w.heap.size + 1, 0, none⟩) 2 2, .string sideN, .slice (some ⟨w.heap.size + 1 + 1, 0, none⟩) 3 3] 67)).alloc
    (.cells #[.int .i64 0, .int .i64 0, .int .i64 4, .int .i64 0] 57)).alloc
    (.cells #[.int .i64 0, .int .i64 2000, .int .i64 1, .int .i64 6000] 55))
theorem ext1 (w : World) (o : Obj) : Ext w (w.alloc o) := (Ext.refl w).alloc o
theorem wdW_R (w : World) : Blk 27 (wdW w) w.heap.size [.string ⟨#[]⟩, .slice (some ⟨w.heap.size + 1 + 1 + 1, 0, none⟩) 2 2, .int .i64 0, .slice (some ⟨w.heap.size + 1 + 1 + 1 + 1 + 1, 0, none⟩) 2 2, .slice (some ⟨w.heap.size + 1 + 1 + 1 + 1, 0, none⟩) 2 2, .slice none 0 0, .bool false] :=
  (((((Blk.new' rfl).ext (ext1 _ _)).ext (ext1 _ _)).ext (ext1 _ _)).ext (ext1 _ _)).ext (ext1 _ _)
theorem wdW_B (w : World) : WdB (wdW w) (w.heap.size + 1) 2000 :=
  ⟨((((Blk.new' (by simp)).ext (ext1 _ _)).ext (ext1 _ _)).ext (ext1 _ _)).ext (ext1 _ _), (((Blk.new' (by simp)).ext (ext1 _ _)).ext (ext1 _ _)).ext (ext1 _ _), ((Blk.new' (by simp)).ext (ext1 _ _)).ext (ext1 _ _), (Blk.new' (by simp)).ext (ext1 _ _), Blk.new' (by simp)⟩
theorem wdW_X (w : World) : Ext w (wdW w) := ((((((Ext.refl w).alloc _).alloc _).alloc _).alloc _).alloc _).alloc _
set_option maxRecDepth 100000 in
set_option maxHeartbeats 1600000 in
theorem wedge_any (w : World) : Calls Tryz.prog 18 #[] w (RetWd w) := by
  go_enter Tryz.func18, Tryz.ntmps18
  go_wp2_with fail
  obtain ⟨r0, r1, r2, r3, r4, r5, r6⟩ := blk7 (wdW_R w)
  have hB := wdW_B w
  have hX := wdW_X w
  show bodyPost _ _ _ _ _ (wdW w)
  generalize wdW w = W at r0 r1 r2 r3 r4 r5 r6 hB hX ⊢
  refine bodyPost_ret (v := PcA.val (wdA (w.heap.size + 1))) (by simp [results, Tryz.results18, go_sem, r0, r1, r2, r3, r4, r5, r6, PcA.val, wdA]) rfl ?_
  exact ⟨rfl, hB, hX⟩
end Go.Proofs.YtliijigdbpmpaaaGreat
namespace Go.Proofs.YtliijigdbpmpaaaGreat
open Go.RowKit
def gK (l : List Iss) (k : Nat) : Iss := l.getD k (0, 0, 0)
def IssAt (w : World) (A : Option Addr) (l : List Iss) : Prop := ∀ k, k < l.length → ∃ b off, A = some ⟨b, off, none⟩ ∧ w.cell? ⟨b, off + k * 3, none⟩ = some (.int .i64 (gK l k).1) ∧ w.cell? ⟨b, off + k * 3 + 1, none⟩ = some (.int .i64 (gK l k).2.1) ∧ w.cell? ⟨b, off + k * 3 + 2, none⟩ = some (.int .i64 (gK l k).2.2)
theorem IssAt.ext {w w' : World} {A : Option Addr} {l : List Iss} (h : IssAt w A l) (he : Ext w w') : IssAt w' A l := fun k hk => by
  obtain ⟨b, off, e, h0, h1, h2⟩ := h k hk
  exact ⟨b, off, e, he.cell h0, he.cell h1, he.cell h2⟩
theorem isscells_get (l : List Iss) : ∀ k, k < l.length → (isscells l)[k * 3]? = some (.int .i64 (gK l k).1) ∧ (isscells l)[k * 3 + 1]? = some (.int .i64 (gK l k).2.1) ∧ (isscells l)[k * 3 + 2]? = some (.int .i64 (gK l k).2.2) := by
  induction l with
  | nil => intro k hk; exact absurd hk (Nat.not_lt_zero _)
  | cons a l ih =>
    intro k hk
    cases k with
    | zero => exact ⟨rfl, rfl, rfl⟩
    | succ k =>
      obtain ⟨h0, h1, h2⟩ := ih k (by simpa using hk)
      have e : isscells (a :: l) = .int .i64 a.1 :: .int .i64 a.2.1 :: .int .i64 a.2.2 :: isscells l := rfl
      rw [e, show (k + 1) * 3 = k * 3 + 1 + 1 + 1 by omega]
      exact ⟨h0, h1, h2⟩
theorem OwnK.slice' {w : World} {base : Nat} {v : Value} {l : List Iss} {n : Nat} (h : OwnK w base v l) (hn : l.length = n) :
    ∃ A cap, v = .slice A n cap ∧ IssAt w A l := by
  subst hn
  rcases h.2 with ⟨rfl, h0⟩ | ⟨g, cap, cur, rfl, hb, hh, hn, hm, hs, ht⟩
  · rw [List.eq_nil_of_length_eq_zero h0]
    exact ⟨none, 0, rfl, fun k hk => absurd hk (Nat.not_lt_zero _)⟩
  · refine ⟨_, cap, rfl, fun k hk => ⟨g, 0, rfl, ?_, ?_, ?_⟩⟩
    · have := World.ownsRow.cells h (g := g) rfl (k * 3) _ (isscells_get l k hk).1
      rwa [addr_add] at this
    · have := World.ownsRow.cells h (g := g) rfl (k * 3 + 1) _ (isscells_get l k hk).2.1
      rwa [addr_add] at this
    · have := World.ownsRow.cells h (g := g) rfl (k * 3 + 2) _ (isscells_get l k hk).2.2
      rwa [addr_add] at this
theorem IssAt.blk {t : TypeId} {w : World} {g : Nat} {l : List Iss} (h : Blk t w g (isscells l)) : IssAt w (some ⟨g, 0, none⟩) l := fun k hk => by
  obtain ⟨h0, h1, h2⟩ := isscells_get l k hk
  exact ⟨g, 0, rfl, by rw [Nat.zero_add, h.cell]; exact h0, by rw [Nat.zero_add, h.cell]; exact h1, by rw [Nat.zero_add, h.cell]; exact h2⟩
set_option maxHeartbeats 800000 in
theorem sameIss_eq (A B : Option Addr) (n c d : Nat) (l : List Iss) (w : World) (ha : IssAt w A l) (hb : IssAt w B l) (hl : l.length = n) (hn : n ≤ 1000000) :
    Calls Tryz.prog 16 #[.slice A n c, .slice B n d] w fun e w' => e = .returned (.bool true) ∧ Ext w w' := by
  have HL := Lib.hid hl; clear hl
  have HA := Lib.hid ha; clear ha
  have HB := Lib.hid hb; clear hb
  go_enter Tryz.func16, Tryz.ntmps16
  go_wp2
  go_loopw [5] (fun i wr => ∃ k : Nat, k ≤ n ∧ i = .int .i64 k ∧ ∃ q, wr = w.drewN q) (fun i _ => n - (intOf i).toNat)
  case atStart => exact ⟨0, Nat.zero_le _, rfl, 0, rfl⟩
  case round =>
    obtain ⟨k, hk, rfl, q, rfl⟩ := hrel
    by_cases hlt : k < n
    · have hkl : k < l.length := by rw [HL.out]; exact hlt
      obtain ⟨b, off, rfl, hc0, hc1, hc2⟩ := HA.out k hkl
      obtain ⟨b', off', rfl, hd0, hd1, hd2⟩ := HB.out k hkl
      go_wp2
      go_quiet (fail)
      go_wp2
      go_roundw
      case rel => exact ⟨k + 1, by omega, by go_num, _, rfl⟩
      case measure => simp [intOf]; omega
    · go_wp2
      go_ret
      exact ⟨rfl, Ext.drewN (Ext.refl _) _⟩
end Go.Proofs.YtliijigdbpmpaaaGreat
