/- garmentlaw23.awake -/
import Derived.Test.YtliijigdbpmpaaaGreatKFld
import Derived.Test.YtliijigdbpmpaaaGreatKUpto
import Derived.Test.YtliijigdbpmpaaaGreatKUnm
import Derived.Test.YtliijigdbpmpaaaGreatKSpots
/- garmentlaw23.wedge -/
namespace Go.Proofs.YtliijigdbpmpaaaGreat
open Go.RowKit
def hemN : ByteArray := ⟨#[104, 101, 109]⟩
def sideN : ByteArray := ⟨#[115, 105, 100, 101]⟩
def wdP : Pc := ⟨[(hemN, [(0, 0), (8, 0)]), (sideN, [(8, 0), (8, 6), (0, 0)])], [(0, 0), (4, 0)], [], [(0, 2000), (1, 6000)]⟩
def wdB : Pc := ⟨[(hemN, [(0, 0), (8, 0)]), (sideN, [(8, 0), (8, 6), (0, 0)])], [(0, 0), (4, 0)], [], [(0, 8001), (1, 6000)]⟩
def wdS : Sty := ⟨[0, 1], [wdP], [⟨0, 0, 0, 0, false, 0⟩]⟩
def wdT : Sty := ⟨[0], [wdP], [⟨0, 0, 0, 0, true, 0⟩]⟩
theorem wd_e0 : plE wdP 0 = 0 := by decide +kernel
theorem wd_e1 : plE wdP 1 = 0 := by decide +kernel
theorem wd_l0 : plL wdP 0 = [2000, 6000] := by decide +kernel
theorem wd_l1 : plL wdP 1 = [3000, 6744] := by decide +kernel
theorem wd_eb : plE wdB 0 = 3 := by decide +kernel
theorem wd_se : unmE wdS 1 = 0 := by decide +kernel
theorem wd_sl : unmL wdS 1 = [] := by decide +kernel
theorem wd_te : unmE wdT 0 = 0 := by decide +kernel
theorem wd_tl : unmL wdT 0 = [(1, 0, 0), (2, 0, 0)] := by decide +kernel
theorem wd_t1 : unmE wdT 1 = 3 := by decide +kernel
theorem wd_s1 : spL wdP 1 = [(3, 0), gS (spL wdP 1) 1] := by decide +kernel
/- the blocks of the wedge, from block b on; x is the first notch's place -/
structure WdB (W : World) (b : Nat) (x : Int) : Prop where
  h : Blk 57 W b (scells [(0, 0), (8, 0)])
  s : Blk 57 W (b + 1) (scells [(8, 0), (8, 6), (0, 0)])
  e : Blk 67 W (b + 1 + 1) [.string hemN, .slice (some ⟨b, 0, none⟩) 2 2, .string sideN, .slice (some ⟨b + 1, 0, none⟩) 3 3]
  c : Blk 57 W (b + 1 + 1 + 1) (scells [(0, 0), (4, 0)])
  n : Blk 55 W (b + 1 + 1 + 1 + 1) (scells [(0, x), (1, 6000)])
theorem WdB.ext {W W' : World} {b : Nat} {x : Int} (h : WdB W b x) (he : Ext W W') : WdB W' b x := ⟨h.h.ext he, h.s.ext he, h.e.ext he, h.c.ext he, h.n.ext he⟩
theorem WdB.kept {K : Nat → Prop} {W W' : World} {b : Nat} {x : Int} (h : WdB W b x) (he : Kept K W W') (hk : ∀ k, b ≤ k → ¬ K k) : WdB W' b x :=
  ⟨he.blk h.h (hk _ (by omega)), he.blk h.s (hk _ (by omega)), he.blk h.e (hk _ (by omega)), he.blk h.c (hk _ (by omega)), he.blk h.n (hk _ (by omega))⟩
def wdA (b : Nat) : PcA := ⟨⟨#[]⟩, some ⟨b + 1 + 1, 0, none⟩, 2, 2, 0, some ⟨b + 1 + 1 + 1 + 1, 0, none⟩, 2, 2, some ⟨b + 1 + 1 + 1, 0, none⟩, 2, 2, none, 0, 0, false⟩
def wdX (x : Int) : Pc := ⟨[(hemN, [(0, 0), (8, 0)]), (sideN, [(8, 0), (8, 6), (0, 0)])], [(0, 0), (4, 0)], [], [(0, x), (1, 6000)]⟩
theorem spots_blk {t : TypeId} {W : World} {g : Nat} {l : List Spot} (h : Blk t W g (scells l)) : SpotsAt W (some ⟨g, 0, none⟩) l := SpotsAt.of_cells fun j u hu => by rw [Nat.zero_add, h.cell]; exact hu
theorem WdB.at {W : World} {b : Nat} {x : Int} (h : WdB W b x) : PcAt W (wdA b) (wdX x) := by
  refine ⟨fun k hk => ?_, rfl, Nat.le_refl _, Nat.le_of_ble_eq_true rfl, spots_blk h.c, rfl, Nat.le_of_ble_eq_true rfl, IntsAt.nil, rfl, spots_blk h.n, rfl, Nat.le_of_ble_eq_true rfl, Nat.le_of_ble_eq_true rfl⟩
  match k, hk with
  | 0, _ => exact ⟨b + 1 + 1, 0, some ⟨b, 0, none⟩, 2, rfl, h.e.cell 0, h.e.cell 1, spots_blk h.h, Nat.le_refl _, Nat.le_of_ble_eq_true rfl⟩
  | 1, _ => exact ⟨b + 1 + 1, 0, some ⟨b + 1, 0, none⟩, 3, rfl, h.e.cell 2, h.e.cell 3, spots_blk h.s, Nat.le_refl _, Nat.le_of_ble_eq_true rfl⟩
def RetWd (w : World) (e : Ending) (w' : World) : Prop := e = .returned (PcA.val (wdA (w.heap.size + 1))) ∧ WdB w' (w.heap.size + 1) 2000 ∧ Ext w w'
def wdW (w : World) : World :=
  ((((((w.alloc (.cells #[.string ⟨#[]⟩, .slice (some ⟨w.heap.size + 1 + 1 + 1, 0, none⟩) 2 2, .int .i64 0, .slice (some ⟨w.heap.size + 1 + 1 + 1 + 1 + 1, 0, none⟩) 2 2, .slice (some ⟨w.heap.size + 1 + 1 + 1 + 1, 0, none⟩) 2 2, .slice none 0 0, .bool false] 27)).alloc
    (.cells #[.int .i64 0, .int .i64 0, .int .i64 8, .int .i64 0] 57)).alloc
    (.cells #[.int .i64 8, .int .i64 0, .int .i64 8, .int .i64 6, .int .i64 0, .int .i64 0] 57)).alloc
    (.cells #[.string hemN, .slice (some ⟨w.heap.size + 1, 0, none⟩) 2 2, .string sideN, .slice (some ⟨w.heap.size + 1 + 1, 0, none⟩) 3 3] 67)).alloc
    (.cells #[.int .i64 0, .int .i64 0, .int .i64 4, .int .i64 0] 57)).alloc
    (.cells #[.int .i64 0, .int .i64 2000, .int .i64 1, .int .i64 6000] 55))
theorem ext1 (w : World) (o : Obj) : Ext w (w.alloc o) := (Ext.refl w).alloc o
theorem wdW_R (w : World) : Blk 27 (wdW w) w.heap.size [.string ⟨#[]⟩, .slice (some ⟨w.heap.size + 1 + 1 + 1, 0, none⟩) 2 2, .int .i64 0, .slice (some ⟨w.heap.size + 1 + 1 + 1 + 1 + 1, 0, none⟩) 2 2, .slice (some ⟨w.heap.size + 1 + 1 + 1 + 1, 0, none⟩) 2 2, .slice none 0 0, .bool false] :=
  (((((Blk.new' rfl).ext (ext1 _ _)).ext (ext1 _ _)).ext (ext1 _ _)).ext (ext1 _ _)).ext (ext1 _ _)
theorem wdW_B (w : World) : WdB (wdW w) (w.heap.size + 1) 2000 :=
  ⟨((((Blk.new' (by simp)).ext (ext1 _ _)).ext (ext1 _ _)).ext (ext1 _ _)).ext (ext1 _ _), (((Blk.new' (by simp)).ext (ext1 _ _)).ext (ext1 _ _)).ext (ext1 _ _), ((Blk.new' (by simp)).ext (ext1 _ _)).ext (ext1 _ _), (Blk.new' (by simp)).ext (ext1 _ _), Blk.new' (by simp)⟩
theorem wdW_X (w : World) : Ext w (wdW w) := ((((((Ext.refl w).alloc _).alloc _).alloc _).alloc _).alloc _).alloc _
set_option maxRecDepth 100000 in
set_option maxHeartbeats 1600000 in
theorem wedge_any (w : World) : Calls Tryz.prog 18 #[] w (RetWd w) := by
  go_enter Tryz.func18, Tryz.ntmps18
  go_wp2_with fail
  obtain ⟨r0, r1, r2, r3, r4, r5, r6⟩ := blk7 (wdW_R w)
  have hB := wdW_B w
  have hX := wdW_X w
  show bodyPost _ _ _ _ _ (wdW w)
  generalize wdW w = W at r0 r1 r2 r3 r4 r5 r6 hB hX ⊢
  refine bodyPost_ret (v := PcA.val (wdA (w.heap.size + 1))) (by simp [results, Tryz.results18, go_sem, r0, r1, r2, r3, r4, r5, r6, PcA.val, wdA]) rfl ?_
  exact ⟨rfl, hB, hX⟩
end Go.Proofs.YtliijigdbpmpaaaGreat
/- garmentref21: SameInts, Light -/
namespace Go.Proofs.YtliijigdbpmpaaaGreat
open Go.RowKit
set_option maxHeartbeats 800000 in
theorem sameInts_eq (A B : Option Addr) (n c d : Nat) (l : List Int) (w : World) (ha : IntsAt w A l) (hb : IntsAt w B l) (hl : l.length = n) (hn : n ≤ 1000000) :
    Calls Tryz.prog 11 #[.slice A n c, .slice B n d] w fun e w' => e = .returned (.bool true) ∧ Ext w w' := by
  have HL := Lib.hid hl; clear hl
  have HA := Lib.hid ha; clear ha
  have HB := Lib.hid hb; clear hb
  go_enter Tryz.func11, Tryz.ntmps11
  go_wp2
  go_loopw [5] (fun i wr => ∃ k : Nat, k ≤ n ∧ i = .int .i64 k ∧ ∃ q, wr = w.drewN q) (fun i _ => n - (intOf i).toNat)
  case atStart => exact ⟨0, Nat.zero_le _, rfl, 0, rfl⟩
  case round =>
    obtain ⟨k, hk, rfl, q, rfl⟩ := hrel
    by_cases hlt : k < n
    · have hkl : k < l.length := by rw [HL.out]; exact hlt
      obtain ⟨b, off, rfl, hc0⟩ := HA.out.g hkl
      obtain ⟨b', off', rfl, hd0⟩ := HB.out.g hkl
      go_wp2
      go_quiet (fail)
      go_wp2
      go_roundw
      case rel => exact ⟨k + 1, by omega, by go_num, _, rfl⟩
      case measure => simp [intOf]; omega
    · go_wp2
      go_ret
      exact ⟨rfl, Ext.drewN (Ext.refl _) _⟩
/- Light: what it means that it answers true -/
def RetL (w : World) (es : List Edge) (nC nN nW most : Nat) (e : Ending) (w' : World) : Prop :=
  ∃ b, e = .returned (.bool b) ∧ Ext w w' ∧ (b = true → es.length ≤ 20 ∧ nC ≤ 20 ∧ nW ≤ 20 ∧ nN ≤ 20 ∧ ∀ k, k < es.length → (gE es k).2.length ≤ most ∧ (gE es k).1.size ≤ 100)
def sumL (es : List Edge) : Nat → Nat
  | 0 => 0
  | k + 1 => sumL es k + (gE es k).2.length
theorem light_all {es : List Edge} {n most : Nat} (h : ∀ j, j < n → (gE es j).2.length ≤ most) (hn : n ≤ 20) : sumL es n ≤ n * most := by
  induction n with
  | zero => simp [sumL]
  | succ n ih =>
    have := ih (fun j hj => h j (by omega)) (by omega)
    have := h n (by omega)
    simp only [sumL]; rw [Nat.add_mul]; omega
set_option maxRecDepth 100000 in
set_option maxHeartbeats 3200000 in
theorem light_any (nm : ByteArray) (AE AN AC AW : Option Addr) (nE cE nN cN nC cC nW cW : Nat) (gr : Int) (mt : Bool) (es : List Edge) (w : World) (most : Nat) (hm : most ≤ 1000)
    (hE : EdgesAt w AE es) (hlE : es.length = nE) :
    Calls Tryz.prog 17 #[.agg #[.string nm, .slice AE nE cE, .int .i64 gr, .slice AN nN cN, .slice AC nC cC, .slice AW nW cW, .bool mt], .int .i64 (most : Int)] w (RetL w es nC nN nW most) := by
  have HLE := Lib.hid hlE; clear hlE
  have HE := Lib.hid hE; clear hE
  by_cases h1 : 20 < nE
  · go_enter Tryz.func17, Tryz.ntmps17
    go_wp2_with fail
    go_ret
    exact ⟨_, rfl, (Ext.refl _).alloc _, fun h => by cases h⟩
  by_cases h2 : 20 < nC
  · go_enter Tryz.func17, Tryz.ntmps17
    go_wp2_with fail
    go_ret
    exact ⟨_, rfl, (Ext.refl _).alloc _, fun h => by cases h⟩
  by_cases h3 : 20 < nW
  · go_enter Tryz.func17, Tryz.ntmps17
    go_wp2_with fail
    go_ret
    exact ⟨_, rfl, (Ext.refl _).alloc _, fun h => by cases h⟩
  by_cases h4 : 20 < nN
  · go_enter Tryz.func17, Tryz.ntmps17
    go_wp2_with fail
    go_ret
    exact ⟨_, rfl, (Ext.refl _).alloc _, fun h => by cases h⟩
  go_enter Tryz.func17, Tryz.ntmps17
  go_wp2_with fail
  refine wp_at fun W0 hW0 => ?_
  have hx0 : Ext w W0 := by rw [hW0]; exact (Ext.refl _).alloc _
  have b1 : W0.cell? ⟨w.heap.size, 1, none⟩ = some (.slice AE nE cE) := by rw [hW0]; simp [go_sem]
  have HX0 := Lib.hid hx0; clear hW0 hx0
  go_loopw [5, 6] (fun s i wr => ∃ k : Nat, k ≤ nE ∧ i = .int .i64 k ∧ s = .int .i64 (sumL es k) ∧ (∀ j, j < k → (gE es j).2.length ≤ most ∧ (gE es j).1.size ≤ 100) ∧ wr = W0) (fun _ i _ => nE - (intOf i).toNat)
  case atStart => exact ⟨0, Nat.zero_le _, rfl, rfl, fun j hj => absurd hj (Nat.not_lt_zero _), rfl⟩
  case round =>
    obtain ⟨k, hk, rfl, rfl, hall, rfl⟩ := hrel
    have hsum := light_all (es := es) (n := k) (most := most) (fun j hj => (hall j hj).1) (by omega)
    have hsum' : sumL es k ≤ 20000 := Nat.le_trans hsum (by have := Nat.mul_le_mul (show k ≤ 20 by omega) hm; omega)
    have HALL := Lib.hid hall; clear hall hsum
    obtain ⟨S, hS⟩ : ∃ S, S = sumL es k := ⟨_, rfl⟩
    rw [← hS] at hsum' ⊢
    have HSS := Lib.hid hS; clear hS
    by_cases hlt : k < nE
    · have hkl : k < es.length := by rw [HLE.out]; exact hlt
      obtain ⟨b, off, L, cL, rfl, hc0, hc1, hS, hcL, hcL'⟩ := (HE.out.ext HX0.out).g hkl
      obtain ⟨sz, hsz⟩ : ∃ sz, sz = (gE es k).2.length := ⟨_, rfl⟩
      obtain ⟨nn, hnn⟩ : ∃ nn, nn = (gE es k).1 := ⟨_, rfl⟩
      rw [← hsz] at hc1 hcL
      rw [← hnn] at hc0
      have HSZ := Lib.hid hsz; have HNN := Lib.hid hnn; clear hsz hnn hS
      by_cases g1 : most < sz
      · go_wp2_with fail
        go_ret
        exact ⟨_, rfl, HX0.out, fun h => by cases h⟩
      by_cases g2 : 100 < nn.size
      · go_wp2_with fail
        go_ret
        exact ⟨_, rfl, HX0.out, fun h => by cases h⟩
      go_wp2_with fail
      go_roundw
      case rel =>
        refine ⟨k + 1, by omega, by go_num, ?_, fun j hj => ?_, trivial⟩
        · simp only [sumL, ← HSS.out, ← HSZ.out]; go_num
        · rcases Nat.lt_succ_iff_lt_or_eq.1 hj with h | h
          · exact HALL.out j h
          · subst h; rw [← HSZ.out, ← HNN.out]; omega
      case measure => simp [intOf]; omega
    · obtain rfl : k = nE := by omega
      go_wp2_with fail
      go_ret
      refine ⟨_, rfl, HX0.out, fun _ => ⟨by rw [HLE.out]; omega, by omega, by omega, by omega, fun j hj => HALL.out j (by rw [HLE.out] at hj; exact hj)⟩⟩
end Go.Proofs.YtliijigdbpmpaaaGreat
/- garmentref23.SameIssues; issues in a row -/
namespace Go.Proofs.YtliijigdbpmpaaaGreat
open Go.RowKit
def gK (l : List Iss) (k : Nat) : Iss := l.getD k (0, 0, 0)
def IssAt (w : World) (A : Option Addr) (l : List Iss) : Prop := ∀ k, k < l.length → ∃ b off, A = some ⟨b, off, none⟩ ∧ w.cell? ⟨b, off + k * 3, none⟩ = some (.int .i64 (gK l k).1) ∧ w.cell? ⟨b, off + k * 3 + 1, none⟩ = some (.int .i64 (gK l k).2.1) ∧ w.cell? ⟨b, off + k * 3 + 2, none⟩ = some (.int .i64 (gK l k).2.2)
theorem IssAt.ext {w w' : World} {A : Option Addr} {l : List Iss} (h : IssAt w A l) (he : Ext w w') : IssAt w' A l := fun k hk => by
  obtain ⟨b, off, e, h0, h1, h2⟩ := h k hk
  exact ⟨b, off, e, he.cell h0, he.cell h1, he.cell h2⟩
theorem isscells_get (l : List Iss) : ∀ k, k < l.length → (isscells l)[k * 3]? = some (.int .i64 (gK l k).1) ∧ (isscells l)[k * 3 + 1]? = some (.int .i64 (gK l k).2.1) ∧ (isscells l)[k * 3 + 2]? = some (.int .i64 (gK l k).2.2) := by
  induction l with
  | nil => intro k hk; exact absurd hk (Nat.not_lt_zero _)
  | cons a l ih =>
    intro k hk
    cases k with
    | zero => exact ⟨rfl, rfl, rfl⟩
    | succ k =>
      obtain ⟨h0, h1, h2⟩ := ih k (by simpa using hk)
      have e : isscells (a :: l) = .int .i64 a.1 :: .int .i64 a.2.1 :: .int .i64 a.2.2 :: isscells l := rfl
      rw [e, show (k + 1) * 3 = k * 3 + 1 + 1 + 1 by omega]
      exact ⟨h0, h1, h2⟩
theorem OwnK.slice' {w : World} {base : Nat} {v : Value} {l : List Iss} {n : Nat} (h : OwnK w base v l) (hn : l.length = n) :
    ∃ A cap, v = .slice A n cap ∧ IssAt w A l := by
  subst hn
  rcases h.2 with ⟨rfl, h0⟩ | ⟨g, cap, cur, rfl, hb, hh, hn, hm, hs, ht⟩
  · rw [List.eq_nil_of_length_eq_zero h0]
    exact ⟨none, 0, rfl, fun k hk => absurd hk (Nat.not_lt_zero _)⟩
  · refine ⟨_, cap, rfl, fun k hk => ⟨g, 0, rfl, ?_, ?_, ?_⟩⟩
    · have := World.ownsRow.cells h (g := g) rfl (k * 3) _ (isscells_get l k hk).1
      rwa [addr_add] at this
    · have := World.ownsRow.cells h (g := g) rfl (k * 3 + 1) _ (isscells_get l k hk).2.1
      rwa [addr_add] at this
    · have := World.ownsRow.cells h (g := g) rfl (k * 3 + 2) _ (isscells_get l k hk).2.2
      rwa [addr_add] at this
theorem IssAt.blk {t : TypeId} {w : World} {g : Nat} {l : List Iss} (h : Blk t w g (isscells l)) : IssAt w (some ⟨g, 0, none⟩) l := fun k hk => by
  obtain ⟨h0, h1, h2⟩ := isscells_get l k hk
  exact ⟨g, 0, rfl, by rw [Nat.zero_add, h.cell]; exact h0, by rw [Nat.zero_add, h.cell]; exact h1, by rw [Nat.zero_add, h.cell]; exact h2⟩
set_option maxHeartbeats 800000 in
theorem sameIss_eq (A B : Option Addr) (n c d : Nat) (l : List Iss) (w : World) (ha : IssAt w A l) (hb : IssAt w B l) (hl : l.length = n) (hn : n ≤ 1000000) :
    Calls Tryz.prog 16 #[.slice A n c, .slice B n d] w fun e w' => e = .returned (.bool true) ∧ Ext w w' := by
  have HL := Lib.hid hl; clear hl
  have HA := Lib.hid ha; clear ha
  have HB := Lib.hid hb; clear hb
  go_enter Tryz.func16, Tryz.ntmps16
  go_wp2
  go_loopw [5] (fun i wr => ∃ k : Nat, k ≤ n ∧ i = .int .i64 k ∧ ∃ q, wr = w.drewN q) (fun i _ => n - (intOf i).toNat)
  case atStart => exact ⟨0, Nat.zero_le _, rfl, 0, rfl⟩
  case round =>
    obtain ⟨k, hk, rfl, q, rfl⟩ := hrel
    by_cases hlt : k < n
    · have hkl : k < l.length := by rw [HL.out]; exact hlt
      obtain ⟨b, off, rfl, hc0, hc1, hc2⟩ := HA.out k hkl
      obtain ⟨b', off', rfl, hd0, hd1, hd2⟩ := HB.out k hkl
      go_wp2
      go_quiet (fail)
      go_wp2
      go_roundw
      case rel => exact ⟨k + 1, by omega, by go_num, _, rfl⟩
      case measure => simp [intOf]; omega
    · go_wp2
      go_ret
      exact ⟨rfl, Ext.drewN (Ext.refl _) _⟩
end Go.Proofs.YtliijigdbpmpaaaGreat
namespace Go.Proofs.YtliijigdbpmpaaaGreat
open Go.RowKit
theorem wd_sty {W : World} {bM bP bK b : Nat} {ms : List Int} {rev : Bool} (hM : Blk 3 W bM (icells ms)) (hB : WdB W b 2000) (hP : Blk 27 W bP (wdA b).cells) (hK : Blk 53 W bK [.int .i64 0, .int .i64 0, .int .i64 0, .int .i64 0, .bool rev, .int .i64 0]) (hl : ms.length ≤ 2) :
    StyAt W ⟨⟨#[]⟩, none, 0, 0, some ⟨bM, 0, none⟩, ms.length, ms.length, some ⟨bP, 0, none⟩, 1, 1, none, 0, 0, some ⟨bK, 0, none⟩, 1, 1, none, 0, 0⟩ ⟨ms, [wdP], [⟨0, 0, 0, 0, rev, 0⟩]⟩ := by
  refine ⟨(OwnI.plain (own_of_int (base := 0) (L := ms) hM (Nat.zero_le _) (by omega))).2.1, fun k hk' => ?_, fun k hk' => ?_, rfl, rfl, rfl, by simp only; omega, by simp only; omega, by simp only; omega⟩
  · match k, hk' with
    | 0, _ => exact ⟨bP, 0, wdA b, rfl, hB.at, hP.cell 0, hP.cell 1, hP.cell 2, hP.cell 3, hP.cell 4, hP.cell 5, hP.cell 6⟩
  · match k, hk' with
    | 0, _ => exact ⟨bK, 0, rfl, hK.cell 0, hK.cell 1, hK.cell 2, hK.cell 3, hK.cell 4, hK.cell 5⟩
set_option maxRecDepth 100000 in
set_option maxHeartbeats 3200000 in
theorem awake_any (w : World) : Calls Tryz.prog 6 #[] w fun e w' => e = .returned (.bool true) ∧ Ext w w' := by
  go_enter Tryz.func6, Tryz.ntmps6
  go_wp2_with fail
  refine (wedge_any _).mono ?_
  rintro e w1 ⟨rfl, hB, he1⟩
  have hp := hB.at
  generalize wdA (w.heap.size + 1) = a1 at hp ⊢
  clear hB
  go_wp2_with fail
  refine (placedS_any a1 wdP 0 _ hp).mono ?_
  rintro e w2 ⟨A1, n1, c1, rfl, ho, he2⟩
  obtain ⟨ho, hn⟩ := ho wd_e0
  obtain rfl : n1 = 2 := hn
  rw [wd_e0]
  rw [wd_l0] at ho
  have HO1 := Lib.hid ho
  have HX2 := Lib.hid (he1.trans he2)
  clear ho hp he1 he2
  go_wp2_with fail
  refine (wedge_any _).mono ?_
  rintro e w3 ⟨rfl, hB, he1⟩
  have hp := hB.at
  generalize wdA (w2.heap.size + 1) = a2 at hp ⊢
  clear hB
  go_wp2_with fail
  refine (placedS_any a2 wdP 1 _ hp).mono ?_
  rintro e w4 ⟨A2, n2, c2, rfl, ho, he2⟩
  obtain ⟨ho, hn⟩ := ho wd_e1
  obtain rfl : n2 = 2 := hn
  rw [wd_e1]
  rw [wd_l1] at ho
  have HO2 := Lib.hid ho
  have HX4 := Lib.hid (he1.trans he2)
  clear ho hp he1 he2
  go_wp2_with fail
  refine (wedge_any _).mono ?_
  rintro e w5 ⟨rfl, hB, he1⟩
  have hp := hB.at
  generalize wdA (w4.heap.size + 1) = a3 at hp ⊢
  clear hB
  go_wp2_with fail
  refine (spots_any a3 wdP 1 _ hp).mono ?_
  rintro e w6 ⟨v3, rfl, ho, _, he2⟩
  have ho := ho wd_e1
  rw [wd_e1]
  rw [wd_s1] at ho
  obtain ⟨A3, c3, hv, hS, _⟩ := OwnT.slice' (n := 2) ho rfl
  subst hv
  have HS3 := Lib.hid hS
  have HX6 := Lib.hid (he1.trans he2)
  clear ho hp he1 he2 hS
  go_wp2_with fail
  refine (wedge_any _).mono ?_
  rintro e w7 ⟨rfl, hB, he1⟩
  generalize (World.alloc w6 (.cells #[.int .i64 0, .int .i64 1] 3)).heap.size + 1 = b7 at hB ⊢
  have HBw7 := Lib.hid hB
  have HMw7 : Hid (Blk 3 w7 w6.heap.size (icells [0, 1])) := (Blk.new' rfl).ext he1
  have HXw7 : Hid (Ext w6 w7) := ((Ext.refl _).alloc _).trans he1
  clear hB he1
  simp only [wdA, PcA.val]
  go_upto_region 5 with fail
  refine wp_at fun w8 hw8 => ?_
  have HXw8 : Hid (Ext w7 w8) := by show Ext _ _; rw [hw8]; exact (((Ext.refl _).alloc _).alloc _).alloc _
  have HPw8 : Hid (Blk 27 w8 w7.heap.size (wdA b7).cells) := by show Blk _ _ _ _; rw [hw8]; exact ((Blk.new' rfl).ext (ext1 _ _)).ext (ext1 _ _)
  have HKw8 : Hid (Blk 53 w8 (w7.heap.size + 1) [.int .i64 0, .int .i64 0, .int .i64 0, .int .i64 0, .bool false, .int .i64 0]) := by show Blk _ _ _ _; rw [hw8]; exact (Blk.new' (by simp)).ext (ext1 _ _)
  have HTw8 : Hid (Blk 44 w8 (w7.heap.size + 1 + 1) [.string ⟨#[]⟩, .slice none 0 0, .slice (some ⟨w6.heap.size, 0, none⟩) 2 2, .slice (some ⟨w7.heap.size, 0, none⟩) 1 1, .slice none 0 0, .slice (some ⟨w7.heap.size + 1, 0, none⟩) 1 1, .slice none 0 0]) := by show Blk _ _ _ _; rw [hw8]; exact Blk.new' (by simp)
  have HYw8 := Lib.hid (wd_sty (HMw7.out.ext HXw8.out) (HBw7.out.ext HXw8.out) HPw8.out HKw8.out (by decide))
  clear hw8 HPw8 HKw8 HMw7 HBw7
  obtain ⟨t0, t1, t2, t3, t4, t5, t6⟩ := blk7 HTw8.out
  go_wp2_with fail
  refine (unmatched_any _ wdS 1 _ HYw8.out (Nat.le_of_ble_eq_true rfl)).mono ?_
  rintro e w9 ⟨v4, rfl, ho, _, he2⟩
  have ho := ho wd_se
  rw [wd_se]
  rw [wd_sl] at ho
  obtain ⟨A4, c4, hv, _⟩ := OwnK.slice' (n := 0) ho rfl
  subst hv
  have HX9 := Lib.hid ((HXw7.out.trans HXw8.out).trans he2)
  clear ho he2 t0 t1 t2 t3 t4 t5 t6 HYw8 HTw8 HXw7 HXw8
  go_wp2_with fail
  refine (wedge_any _).mono ?_
  rintro e w10 ⟨rfl, hB, he1⟩
  generalize (World.alloc w9 (.cells #[.int .i64 0] 3)).heap.size + 1 = b10 at hB ⊢
  have HBw10 := Lib.hid hB
  have HMw10 : Hid (Blk 3 w10 w9.heap.size (icells [0])) := (Blk.new' rfl).ext he1
  have HXw10 : Hid (Ext w9 w10) := ((Ext.refl _).alloc _).trans he1
  clear hB he1
  simp only [wdA, PcA.val]
  go_upto_region 7 with fail
  refine wp_at fun w11 hw11 => ?_
  have HXw11 : Hid (Ext w10 w11) := by show Ext _ _; rw [hw11]; exact (((Ext.refl _).alloc _).alloc _).alloc _
  have HPw11 : Hid (Blk 27 w11 w10.heap.size (wdA b10).cells) := by show Blk _ _ _ _; rw [hw11]; exact ((Blk.new' rfl).ext (ext1 _ _)).ext (ext1 _ _)
  have HKw11 : Hid (Blk 53 w11 (w10.heap.size + 1) [.int .i64 0, .int .i64 0, .int .i64 0, .int .i64 0, .bool true, .int .i64 0]) := by show Blk _ _ _ _; rw [hw11]; exact (Blk.new' (by simp)).ext (ext1 _ _)
  have HTw11 : Hid (Blk 44 w11 (w10.heap.size + 1 + 1) [.string ⟨#[]⟩, .slice none 0 0, .slice (some ⟨w9.heap.size, 0, none⟩) 1 1, .slice (some ⟨w10.heap.size, 0, none⟩) 1 1, .slice none 0 0, .slice (some ⟨w10.heap.size + 1, 0, none⟩) 1 1, .slice none 0 0]) := by show Blk _ _ _ _; rw [hw11]; exact Blk.new' (by simp)
  have HYw11 := Lib.hid (wd_sty (HMw10.out.ext HXw11.out) (HBw10.out.ext HXw11.out) HPw11.out HKw11.out (by decide))
  clear hw11 HPw11 HKw11 HMw10 HBw10
  obtain ⟨t0, t1, t2, t3, t4, t5, t6⟩ := blk7 HTw11.out
  go_wp2_with fail
  refine (unmatched_any _ wdT 0 _ HYw11.out (Nat.le_of_ble_eq_true rfl)).mono ?_
  rintro e w12 ⟨v4, rfl, ho, _, he2⟩
  have ho := ho wd_te
  rw [wd_te]
  rw [wd_tl] at ho
  obtain ⟨A5, c5, hv, hI⟩ := OwnK.slice' (n := 2) ho rfl
  subst hv
  have HI5 := Lib.hid hI
  have HX12 := Lib.hid ((HXw10.out.trans HXw11.out).trans he2)
  have HY12 := Lib.hid (HYw11.out.ext he2)
  have HT12 := Lib.hid (HTw11.out.ext he2)
  clear ho he2 t0 t1 t2 t3 t4 t5 t6 hI
  obtain ⟨t0, t1, t2, t3, t4, t5, t6⟩ := blk7 HT12.out
  go_wp2_with fail
  refine (unmatched_any _ wdT 1 _ HY12.out (Nat.le_of_ble_eq_true rfl)).mono ?_
  rintro e w13 ⟨v6, rfl, _, ho, he2⟩
  have ho := ho (by rw [wd_t1]; decide)
  subst ho
  rw [wd_t1]
  have HX13 := Lib.hid he2
  clear he2 t0 t1 t2 t3 t4 t5 t6 HYw11 HTw11 HY12 HT12
  go_wp2_with fail
  refine (wedge_any _).mono ?_
  rintro e w14 ⟨rfl, hB, he1⟩
  have hge : w13.heap.size < w13.heap.size + 1 := by omega
  generalize w13.heap.size + 1 = b14 at hB hge ⊢
  have HB14 := Lib.hid hB
  have HX14 := Lib.hid he1
  have hlb : b14 + 1 + 1 + 1 + 1 < w14.heap.size := hB.n.lt
  clear hB he1
  simp only [wdA, PcA.val]
  go_upto_region 10 with fail
  refine wp_at fun w15 hw15 => ?_
  have HX15 : Hid (Ext w14 w15) := by show Ext _ _; rw [hw15]; exact (Ext.refl _).alloc _
  have HP15 : Hid (Blk 27 w15 w14.heap.size (wdA b14).cells) := by show Blk _ _ _ _; rw [hw15]; exact Blk.new' rfl
  have HB15 := Lib.hid (HB14.out.ext HX15.out)
  clear hw15
  have hp3 := HP15.out.cell 3
  simp only [PcA.cells, wdA, List.getElem?_cons_succ, List.getElem?_cons_zero] at hp3
  have hn1 := HB15.out.n.cell 1
  have hf1 := HB15.out.n.frozen 1
  simp only [scells, List.flatMap_cons, List.flatMap_nil, List.append_nil, List.cons_append, List.nil_append, List.getElem?_cons_succ, List.getElem?_cons_zero] at hn1
  go_upto_region 11 with fail
  refine wp_at fun w16 hw16 => ?_
  have HB16 : Hid (WdB w16 b14 8001) := by
    show WdB _ _ _
    rw [hw16]
    have h := HB15.out
    exact ⟨h.h.other (by simp only; omega) _, h.s.other (by simp only; omega) _, h.e.other (by simp only; omega) _, h.c.other (by simp only; omega) _, h.n.set 1 _⟩
  have HP16 : Hid (Blk 27 w16 w14.heap.size (wdA b14).cells) := by show Blk _ _ _ _; rw [hw16]; exact HP15.out.other (by simp only; omega) _
  have HX16 : Hid (Ext w13 w16) := by show Ext _ _; rw [hw16]; exact (HX14.out.trans HX15.out).setCell (by simp only; omega) _
  clear hw16 hn1 hf1 hp3
  obtain ⟨p0, p1, p2, p3, p4, p5, p6⟩ := blk7 HP16.out
  simp only [wdA] at p0 p1 p2 p3 p4 p5 p6
  clear hge hlb
  go_wp2_with fail
  refine (placedS_any (wdA b14) wdB 0 _ HB16.out.at).mono ?_
  rintro e w17 ⟨A7, n7, c7, rfl, _, he2⟩
  rw [wd_eb]
  have HI7 := Lib.hid (HI5.out.ext ((HX13.out.trans HX16.out).trans he2))
  have HX17 := Lib.hid ((((HX9.out.trans HX12.out).trans HX13.out).trans HX16.out).trans he2)
  clear p0 p1 p2 p3 p4 p5 p6 he2
  obtain ⟨b3, o3, hA3, s0, s1⟩ := (HS3.out.ext HX17.out).g (k := 0) (by decide)
  subst hA3
  simp only [gS, List.getD_cons_zero, Nat.zero_mul, Nat.add_zero] at s0 s1
  go_wp2_with fail
  have HY17 := Lib.hid ((HX4.out.trans HX6.out).trans HX17.out)
  have HI1 := Lib.hid ((OwnI.plain (own_ext HO1.out HY17.out)).2.1)
  have HI2 := Lib.hid ((OwnI.plain (own_ext HO2.out (HX6.out.trans HX17.out))).2.1)
  refine (sameInts_eq A1 _ 2 c1 2 [2000, 6000] _ (HI1.out.ext (ext1 _ _)) (OwnI.plain (own_of_int (base := 0) (L := [2000, 6000]) (Blk.new' rfl) (Nat.zero_le _) (by decide))).2.1 rfl (by omega)).mono ?_
  rintro e w18 ⟨rfl, he1⟩
  have HX18 := Lib.hid ((ext1 w17 _).trans he1)
  clear he1 s0 s1
  go_wp2_with fail
  refine (sameInts_eq A2 _ 2 c2 2 [3000, 6744] _ (HI2.out.ext (HX18.out.trans (ext1 _ _))) (OwnI.plain (own_of_int (base := 0) (L := [3000, 6744]) (Blk.new' rfl) (Nat.zero_le _) (by decide))).2.1 rfl (by omega)).mono ?_
  rintro e w19 ⟨rfl, he1⟩
  have HX19 := Lib.hid ((HX18.out.trans (ext1 w18 _)).trans he1)
  clear he1
  go_wp2_with fail
  refine (sameIss_eq A5 _ 2 c5 2 [(1, 0, 0), (2, 0, 0)] _ (HI7.out.ext (HX19.out.trans (ext1 _ _))) (IssAt.blk (t := 59) (Blk.new' rfl)) rfl (by omega)).mono ?_
  rintro e w20 ⟨rfl, he1⟩
  have HX20 := Lib.hid ((HX19.out.trans (ext1 w19 _)).trans he1)
  clear he1
  go_wp2_with fail
  go_ret
  exact ⟨rfl, (HX2.out.trans HY17.out).trans HX20.out⟩
end Go.Proofs.YtliijigdbpmpaaaGreat
