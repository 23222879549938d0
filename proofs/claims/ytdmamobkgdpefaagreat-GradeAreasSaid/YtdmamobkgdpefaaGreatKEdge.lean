/- garmentlaw21.edge -/
import Derived.Deep.RegionLaw
import Derived.Test.YtdmamobkgdpefaaGreatKWd
import Derived.Test.YtdmamobkgdpefaaGreatKLeaf
/- garmentref21: SameInts, SameEdges, Light -/
namespace Go.Proofs.YtdmamobkgdpefaaGreat
open Go.RowKit
set_option maxHeartbeats 800000 in
theorem sameInts_eq (A B : Option Addr) (n c d : Nat) (l : List Int) (w : World) (ha : IntsAt w A l) (hb : IntsAt w B l) (hl : l.length = n) (hn : n ≤ 1000000) :
    Calls Tryz.prog 14 #[.slice A n c, .slice B n d] w fun e w' => e = .returned (.bool true) ∧ Ext w w' := by
  have HL := Lib.hid hl; clear hl
  have HA := Lib.hid ha; clear ha
  have HB := Lib.hid hb; clear hb
  go_enter Tryz.func14, Tryz.ntmps14
  go_wp2
  go_loopw [5] (fun i wr => ∃ k : Nat, k ≤ n ∧ i = .int .i64 k ∧ ∃ q, wr = w.drewN q) (fun i _ => n - (intOf i).toNat)
  case atStart => exact ⟨0, Nat.zero_le _, rfl, 0, rfl⟩
  case round =>
    obtain ⟨k, hk, rfl, q, rfl⟩ := hrel
    by_cases hlt : k < n
    · have hkl : k < l.length := by rw [HL.out]; exact hlt
      obtain ⟨b, off, rfl, hc0⟩ := HA.out.g hkl
      obtain ⟨b', off', rfl, hd0⟩ := HB.out.g hkl
      go_wp2
      go_quiet (fail)
      go_wp2
      go_roundw
      case rel => exact ⟨k + 1, by omega, by go_num, _, rfl⟩
      case measure => simp [intOf]; omega
    · go_wp2
      go_ret
      exact ⟨rfl, Ext.drewN (Ext.refl _) _⟩
set_option maxRecDepth 100000 in
set_option maxHeartbeats 1600000 in
theorem sameEdges_eq (A B : Option Addr) (n c d : Nat) (l : List Edge) (w : World) (ha : EdgesAt w A l) (hb : EdgesAt w B l) (hl : l.length = n) (hn : n ≤ 1000000) :
    Calls Tryz.prog 11 #[.slice A n c, .slice B n d] w fun e w' => e = .returned (.bool true) ∧ Ext w w' := by
  have HL := Lib.hid hl; clear hl
  have HA := Lib.hid ha; clear ha
  have HB := Lib.hid hb; clear hb
  go_enter Tryz.func11, Tryz.ntmps11
  go_wp2_with fail
  go_loopw [5] (fun i wr => ∃ k : Nat, k ≤ n ∧ i = .int .i64 k ∧ Ext w wr) (fun i _ => n - (intOf i).toNat)
  case atStart => exact ⟨0, Nat.zero_le _, rfl, Ext.refl _⟩
  case round =>
    obtain ⟨k, hk, rfl, hx⟩ := hrel
    by_cases hlt : k < n
    · have hkl : k < l.length := by rw [HL.out]; exact hlt
      obtain ⟨b, off, L, cL, rfl, hc0, hc1, hS, hcL, hcL'⟩ := (HA.out.ext hx).g hkl
      obtain ⟨b', off', M, cM, rfl, hd0, hd1, hT, hcM, hcM'⟩ := (HB.out.ext hx).g hkl
      obtain ⟨ln, hln⟩ : ∃ ln, ln = (gE l k).2 := ⟨_, rfl⟩
      obtain ⟨nm, hnm⟩ : ∃ nm, nm = (gE l k).1 := ⟨_, rfl⟩
      rw [← hln] at hc1 hd1 hS hT hcL hcM
      rw [← hnm] at hc0 hd0
      clear hln hnm
      have HS := Lib.hid hS; have HT := Lib.hid hT; clear hS hT
      have hself : (nm.toList == nm.toList) = true := by simp
      have hle : ln.length ≤ 9223372036854775807 := by omega
      go_wp2_with fail
      have d0 := fun z : After wr => After.cell hc0 z
      have d1 := fun z : After wr => After.cell hc1 z
      have d2 := fun z : After wr => After.cell hd0 z
      have d3 := fun z : After wr => After.cell hd1 z
      refine region_ext (by kernel_rfl) (by kernel_rfl) ?_
      repeat (go_big_quiet_step (
        (go_at_call 31; exact after_call (R11Same_any L M cL cM ln ln _ (HS.out.ext (After.ext _)) (HT.out.ext (After.ext _)) hle))))
      refine wpQuiet_nil ?_
      rintro w1 ⟨⟨_, he⟩, rfl⟩
      clear d0 d1 d2 d3
      go_wp2_with fail
      go_roundw
      case rel => exact ⟨k + 1, by omega, by go_num, hx.trans he⟩
      case measure => simp [intOf]; omega
    · go_wp2_with fail
      go_ret
      exact ⟨rfl, hx⟩
/- Light: what it means that it answers true -/
def RetL (w : World) (es : List Edge) (nC nN nW most : Nat) (e : Ending) (w' : World) : Prop :=
  ∃ b, e = .returned (.bool b) ∧ Ext w w' ∧ (b = true → es.length ≤ 20 ∧ nC ≤ 20 ∧ nW ≤ 20 ∧ nN ≤ 20 ∧ ∀ k, k < es.length → (gE es k).2.length ≤ most ∧ (gE es k).1.size ≤ 100)
def sumL (es : List Edge) : Nat → Nat
  | 0 => 0
  | k + 1 => sumL es k + (gE es k).2.length
theorem light_all {es : List Edge} {n most : Nat} (h : ∀ j, j < n → (gE es j).2.length ≤ most) (hn : n ≤ 20) : sumL es n ≤ n * most := by
  induction n with
  | zero => simp [sumL]
  | succ n ih =>
    have := ih (fun j hj => h j (by omega)) (by omega)
    have := h n (by omega)
    simp only [sumL]; rw [Nat.add_mul]; omega
set_option maxRecDepth 100000 in
set_option maxHeartbeats 3200000 in
theorem light_any (nm : ByteArray) (AE AN AC AW : Option Addr) (nE cE nN cN nC cC nW cW : Nat) (gr : Int) (mt : Bool) (es : List Edge) (w : World) (most : Nat) (hm : most ≤ 1000)
    (hE : EdgesAt w AE es) (hlE : es.length = nE) :
    Calls Tryz.prog 7 #[.agg #[.string nm, .slice AE nE cE, .int .i64 gr, .slice AN nN cN, .slice AC nC cC, .slice AW nW cW, .bool mt], .int .i64 (most : Int)] w (RetL w es nC nN nW most) := by
  have HLE := Lib.hid hlE; clear hlE
  have HE := Lib.hid hE; clear hE
  by_cases h1 : 20 < nE
  · go_enter Tryz.func7, Tryz.ntmps7
    go_wp2_with fail
    go_ret
    exact ⟨_, rfl, (Ext.refl _).alloc _, fun h => by cases h⟩
  by_cases h2 : 20 < nC
  · go_enter Tryz.func7, Tryz.ntmps7
    go_wp2_with fail
    go_ret
    exact ⟨_, rfl, (Ext.refl _).alloc _, fun h => by cases h⟩
  by_cases h3 : 20 < nW
  · go_enter Tryz.func7, Tryz.ntmps7
    go_wp2_with fail
    go_ret
    exact ⟨_, rfl, (Ext.refl _).alloc _, fun h => by cases h⟩
  by_cases h4 : 20 < nN
  · go_enter Tryz.func7, Tryz.ntmps7
    go_wp2_with fail
    go_ret
    exact ⟨_, rfl, (Ext.refl _).alloc _, fun h => by cases h⟩
  go_enter Tryz.func7, Tryz.ntmps7
  go_wp2_with fail
  refine wp_at fun W0 hW0 => ?_
  have hx0 : Ext w W0 := by rw [hW0]; exact (Ext.refl _).alloc _
  have b1 : W0.cell? ⟨w.heap.size, 1, none⟩ = some (.slice AE nE cE) := by rw [hW0]; simp [go_sem]
  have HX0 := Lib.hid hx0; clear hW0 hx0
  go_loopw [5, 6] (fun s i wr => ∃ k : Nat, k ≤ nE ∧ i = .int .i64 k ∧ s = .int .i64 (sumL es k) ∧ (∀ j, j < k → (gE es j).2.length ≤ most ∧ (gE es j).1.size ≤ 100) ∧ wr = W0) (fun _ i _ => nE - (intOf i).toNat)
  case atStart => exact ⟨0, Nat.zero_le _, rfl, rfl, fun j hj => absurd hj (Nat.not_lt_zero _), rfl⟩
  case round =>
    obtain ⟨k, hk, rfl, rfl, hall, rfl⟩ := hrel
    have hsum := light_all (es := es) (n := k) (most := most) (fun j hj => (hall j hj).1) (by omega)
    have hsum' : sumL es k ≤ 20000 := Nat.le_trans hsum (by have := Nat.mul_le_mul (show k ≤ 20 by omega) hm; omega)
    have HALL := Lib.hid hall; clear hall hsum
    obtain ⟨S, hS⟩ : ∃ S, S = sumL es k := ⟨_, rfl⟩
    rw [← hS] at hsum' ⊢
    have HSS := Lib.hid hS; clear hS
    by_cases hlt : k < nE
    · have hkl : k < es.length := by rw [HLE.out]; exact hlt
      obtain ⟨b, off, L, cL, rfl, hc0, hc1, hS, hcL, hcL'⟩ := (HE.out.ext HX0.out).g hkl
      obtain ⟨sz, hsz⟩ : ∃ sz, sz = (gE es k).2.length := ⟨_, rfl⟩
      obtain ⟨nn, hnn⟩ : ∃ nn, nn = (gE es k).1 := ⟨_, rfl⟩
      rw [← hsz] at hc1 hcL
      rw [← hnn] at hc0
      have HSZ := Lib.hid hsz; have HNN := Lib.hid hnn; clear hsz hnn hS
      by_cases g1 : most < sz
      · go_wp2_with fail
        go_ret
        exact ⟨_, rfl, HX0.out, fun h => by cases h⟩
      by_cases g2 : 100 < nn.size
      · go_wp2_with fail
        go_ret
        exact ⟨_, rfl, HX0.out, fun h => by cases h⟩
      go_wp2_with fail
      go_roundw
      case rel =>
        refine ⟨k + 1, by omega, by go_num, ?_, fun j hj => ?_, trivial⟩
        · simp only [sumL, ← HSS.out, ← HSZ.out]; go_num
        · rcases Nat.lt_succ_iff_lt_or_eq.1 hj with h | h
          · exact HALL.out j h
          · subst h; rw [← HSZ.out, ← HNN.out]; omega
      case measure => simp [intOf]; omega
    · obtain rfl : k = nE := by omega
      go_wp2_with fail
      go_ret
      refine ⟨_, rfl, HX0.out, fun _ => ⟨by rw [HLE.out]; omega, by omega, by omega, by omega, fun j hj => HALL.out j (by rw [HLE.out] at hj; exact hj)⟩⟩
end Go.Proofs.YtdmamobkgdpefaaGreat
namespace Go.Proofs.YtdmamobkgdpefaaGreat
open Go.RowKit
def pairs4 (a b c d : Int) : List Spot := [(a, b), (c, d)]
def IntCells (w : World) (b off : Nat) (x0 x1 x2 x3 : Int) : Prop := w.cell? ⟨b, off, none⟩ = some (.int .i64 x0) ∧ w.cell? ⟨b, off + 1, none⟩ = some (.int .i64 x1) ∧ w.cell? ⟨b, off + 2, none⟩ = some (.int .i64 x2) ∧ w.cell? ⟨b, off + 3, none⟩ = some (.int .i64 x3)
theorem IntCells.ext {w w' : World} {b off : Nat} {x0 x1 x2 x3 : Int} (h : IntCells w b off x0 x1 x2 x3) (he : Ext w w') : IntCells w' b off x0 x1 x2 x3 := ⟨he.cell h.1, he.cell h.2.1, he.cell h.2.2.1, he.cell h.2.2.2⟩
def RetEd (w : World) (nm : ByteArray) (l : List Spot) (e : Ending) (w' : World) : Prop := ∃ v, e = .returned (.agg #[.string nm, v]) ∧ OwnT 59 w' w.heap.size v l ∧ Ext w w'
theorem edge_fin {w W wn : World} {nm : ByteArray} {v0 v : Value} {L : List Spot} {V : Value} (hS : Blk 52 W w.heap.size [.string ⟨#[]⟩, .slice none 0 0]) (hX : Blk 52 W (w.heap.size + 1) [.string nm, v0])
    (h1 : V.ownBlock ≠ some (w.heap.size + 1)) (h0 : V.ownBlock ≠ some w.heap.size) (hg : W.grownBy wn V.ownBlock) (ho : wn.ownsRow w.heap.size 59 2 v L.length (scells L)) (hx : Ext w W) (hb : ∀ g, V.ownBlock = some g → w.heap.size ≤ g) :
    Blk 52 (wn.setCell ⟨w.heap.size + 1, 1, none⟩ v) w.heap.size [.string ⟨#[]⟩, .slice none 0 0] ∧ Blk 52 (wn.setCell ⟨w.heap.size + 1, 1, none⟩ v) (w.heap.size + 1) [.string nm, v] ∧ OwnT 59 (wn.setCell ⟨w.heap.size + 1, 1, none⟩ v) w.heap.size v L ∧ Ext w (wn.setCell ⟨w.heap.size + 1, 1, none⟩ v) := by
  have hS' : Blk 52 wn w.heap.size [.string ⟨#[]⟩, .slice none 0 0] := (hg.block _ hS.lt (Ne.symm h0)).trans hS
  have hX' : Blk 52 wn (w.heap.size + 1) [.string nm, v0] := (hg.block _ hX.lt (Ne.symm h1)).trans hX
  exact ⟨hS'.other (by simp) v, hX'.set 1 v, own_set ho (own_blk_ne ho hX' (by decide)) v, (hx.grown hg hb).setCell (by simp) v⟩
set_option maxRecDepth 100000 in
set_option maxHeartbeats 1600000 in
theorem edge_any (nm : ByteArray) (b off c : Nat) (x0 x1 x2 x3 : Int) (w : World) (hc : IntCells w b off x0 x1 x2 x3) :
    Calls Tryz.prog 23 #[.string nm, .slice (some ⟨b, off, none⟩) 4 c] w (RetEd w nm (pairs4 x0 x1 x2 x3)) := by
  have HC := Lib.hid hc; clear hc
  obtain ⟨i0, hi0, hz0, hz1, hz2⟩ := info_parts spot_info
  have hbl : b < w.heap.size := cell_lt HC.out.1
  go_enter Tryz.func23, Tryz.ntmps23
  go_wp2_with fail
  refine wp_at fun W0 hW0 => ?_
  have hS : Blk 52 W0 w.heap.size [.string ⟨#[]⟩, .slice none 0 0] := by rw [hW0]; exact (Blk.new' rfl).ext ((Ext.refl _).alloc _)
  have hX : Blk 52 W0 (w.heap.size + 1) [.string nm, .slice none 0 0] := by rw [hW0]; exact Blk.new' (by simp)
  have hx0 : Ext w W0 := by rw [hW0]; exact ((Ext.refl _).alloc _).alloc _
  clear hW0
  go_loopw [6] (fun i wr => ∃ (k : Nat) (v : Value), k ≤ 2 ∧ i = .int .i64 (2 * k) ∧ Blk 52 wr w.heap.size [.string ⟨#[]⟩, .slice none 0 0] ∧ Blk 52 wr (w.heap.size + 1) [.string nm, v] ∧ OwnT 59 wr w.heap.size v ((pairs4 x0 x1 x2 x3).take k) ∧ Ext w wr) (fun i _ => 4 - (intOf i).toNat)
  case atStart => exact ⟨0, _, by omega, rfl, hS, hX, World.ownsRow_nil _ _ _ _, hx0⟩
  case round =>
    clear hS hX hx0
    obtain ⟨k, v, hk, rfl, hS, hX, hO, hx⟩ := hrel
    have HS := Lib.hid hS; have HX := Lib.hid hX; have HO := Lib.hid hO; clear hS hX hO
    obtain ⟨c0, c1, c2, c3⟩ := HC.out.ext hx
    have hxl : w.heap.size + 1 < wr.heap.size := HX.out.lt
    have x1' := HX.out.cell 1
    have fx1 := HX.out.frozen 1
    simp only [List.getElem?_cons_succ, List.getElem?_cons_zero] at x1'
    obtain ⟨VA, vn, vc, rfl⟩ : ∃ VA vn vc, v = .slice VA vn vc := by
      rcases HO.out.2 with ⟨h, _⟩ | ⟨g, cap, cur, h, _⟩
      · exact ⟨_, _, _, h⟩
      · exact ⟨_, _, _, h⟩
    have hw1 : IntKind.i64.wrap 1 = 1 := IntWalk.i64_in _ (by omega)
    have hw3 : IntKind.i64.wrap 3 = 3 := IntWalk.i64_in _ (by omega)
    obtain rfl | rfl | rfl : k = 0 ∨ k = 1 ∨ k = 2 := by omega
    · have HOW : Hid (World.ownsRow (wr.alloc (.cells #[.int .i64 x0, .int .i64 x1] 59)).drew w.heap.size 59 2 (.slice VA vn vc) 0 (scells ((pairs4 x0 x1 x2 x3).take 0))) := own_ext HO.out (((Ext.refl wr).alloc (.cells #[.int .i64 x0, .int .i64 x1] 59)).drew)
      have H6 : Hid (w.heap.size ≤ (wr.alloc (.cells #[.int .i64 x0, .int .i64 x1] 59)).drew.heap.size) := Ext.size (hx.trans (((Ext.refl wr).alloc (.cells #[.int .i64 x0, .int .i64 x1] 59)).drew))
      have HXX := Lib.hid (HX.out.ext (((Ext.refl wr).alloc (.cells #[.int .i64 x0, .int .i64 x1] 59)).drew))
      have HSS := Lib.hid (HS.out.ext (((Ext.refl wr).alloc (.cells #[.int .i64 x0, .int .i64 x1] 59)).drew))
      have HNE : Hid (Value.ownBlock (.slice VA vn vc) ≠ some (w.heap.size + 1)) := own_blk_ne HO.out HX.out (by decide)
      have HNE0 : Hid (Value.ownBlock (.slice VA vn vc) ≠ some w.heap.size) := own_blk_ne HO.out HS.out (by decide)
      have HEX : Hid (Ext w (wr.alloc (.cells #[.int .i64 x0, .int .i64 x1] 59)).drew) := (hx.alloc (.cells #[.int .i64 x0, .int .i64 x1] 59)).drew
      go_wp2_with fail
      go_region_law (first | (refine step_append_lies _ (by rfl) (.tmp 17) (.tmp 28) 24 (by rfl) w.heap.size 59 i0 (.agg #[.int .i64 0, .int .i64 0]) 2 16 Tryz.underlying24 hi0 hz0 hz1 hz2 rfl (by decide) (.slice VA vn vc) 0 (scells ((pairs4 x0 x1 x2 x3).take 0)) (by rfl) HOW.out ⟨wr.heap.size, 0, none⟩ 1 1 [.int .i64 x0, .int .i64 x1] (by rfl) (by rfl) (World.news_of_block (cs := #[.int .i64 x0, .int .i64 x1]) (t := 59) (fr := (0, 0)) (heap_alloc_new wr _)) (by simp [Value.oneCell']) (by decide) (by decide) (by decide) H6.out (wr.heap.size + 1) (by simp) ?_; intro gg cap wn hown1 hgrow hat hltn; have y1 := (World.cell?_of_block (a := ⟨w.heap.size + 1, 1, none⟩) (hgrow.block _ HXX.out.lt (Ne.symm HNE.out))).trans (HXX.out.cell 1); have yf := (World.frozen?_of_block (a := ⟨w.heap.size + 1, 1, none⟩) (hgrow.block _ HXX.out.lt (Ne.symm HNE.out))).trans (HXX.out.frozen 1); simp only [List.getElem?_cons_succ, List.getElem?_cons_zero] at y1) | fail)
      all_goals
        have HFIN := Lib.hid (edge_fin HSS.out HXX.out HNE.out HNE0.out hgrow (L := (pairs4 x0 x1 x2 x3).take (0 + 1)) hown1 HEX.out (fun g hg => own_ge HO.out hg))
        clear hown1 hgrow hat hltn
        go_wp2_with fail
        exact ⟨⟨0 + 1, _, by omega, rfl, HFIN.out⟩, by simp [intOf]⟩
    · have HOW : Hid (World.ownsRow (wr.alloc (.cells #[.int .i64 x2, .int .i64 x3] 59)).drew w.heap.size 59 2 (.slice VA vn vc) 1 (scells ((pairs4 x0 x1 x2 x3).take 1))) := own_ext HO.out (((Ext.refl wr).alloc (.cells #[.int .i64 x2, .int .i64 x3] 59)).drew)
      have H6 : Hid (w.heap.size ≤ (wr.alloc (.cells #[.int .i64 x2, .int .i64 x3] 59)).drew.heap.size) := Ext.size (hx.trans (((Ext.refl wr).alloc (.cells #[.int .i64 x2, .int .i64 x3] 59)).drew))
      have HXX := Lib.hid (HX.out.ext (((Ext.refl wr).alloc (.cells #[.int .i64 x2, .int .i64 x3] 59)).drew))
      have HSS := Lib.hid (HS.out.ext (((Ext.refl wr).alloc (.cells #[.int .i64 x2, .int .i64 x3] 59)).drew))
      have HNE : Hid (Value.ownBlock (.slice VA vn vc) ≠ some (w.heap.size + 1)) := own_blk_ne HO.out HX.out (by decide)
      have HNE0 : Hid (Value.ownBlock (.slice VA vn vc) ≠ some w.heap.size) := own_blk_ne HO.out HS.out (by decide)
      have HEX : Hid (Ext w (wr.alloc (.cells #[.int .i64 x2, .int .i64 x3] 59)).drew) := (hx.alloc (.cells #[.int .i64 x2, .int .i64 x3] 59)).drew
      go_wp2_with fail
      go_region_law (first | (refine step_append_lies _ (by rfl) (.tmp 17) (.tmp 28) 24 (by rfl) w.heap.size 59 i0 (.agg #[.int .i64 0, .int .i64 0]) 2 16 Tryz.underlying24 hi0 hz0 hz1 hz2 rfl (by decide) (.slice VA vn vc) 1 (scells ((pairs4 x0 x1 x2 x3).take 1)) (by rfl) HOW.out ⟨wr.heap.size, 0, none⟩ 1 1 [.int .i64 x2, .int .i64 x3] (by rfl) (by rfl) (World.news_of_block (cs := #[.int .i64 x2, .int .i64 x3]) (t := 59) (fr := (0, 0)) (heap_alloc_new wr _)) (by simp [Value.oneCell']) (by decide) (by decide) (by decide) H6.out (wr.heap.size + 1) (by simp) ?_; intro gg cap wn hown1 hgrow hat hltn; have y1 := (World.cell?_of_block (a := ⟨w.heap.size + 1, 1, none⟩) (hgrow.block _ HXX.out.lt (Ne.symm HNE.out))).trans (HXX.out.cell 1); have yf := (World.frozen?_of_block (a := ⟨w.heap.size + 1, 1, none⟩) (hgrow.block _ HXX.out.lt (Ne.symm HNE.out))).trans (HXX.out.frozen 1); simp only [List.getElem?_cons_succ, List.getElem?_cons_zero] at y1) | fail)
      all_goals
        have HFIN := Lib.hid (edge_fin HSS.out HXX.out HNE.out HNE0.out hgrow (L := (pairs4 x0 x1 x2 x3).take (1 + 1)) hown1 HEX.out (fun g hg => own_ge HO.out hg))
        clear hown1 hgrow hat hltn
        go_wp2_with fail
        exact ⟨⟨1 + 1, _, by omega, rfl, HFIN.out⟩, by simp [intOf]⟩
    · have s0 := HS.out.cell 0
      have s1 := HS.out.cell 1
      have fs0 := HS.out.frozen 0
      have fs1 := HS.out.frozen 1
      have x0' := HX.out.cell 0
      simp only [List.getElem?_cons_succ, List.getElem?_cons_zero] at s0 s1 x0'
      go_wp2_with fail
      refine bodyPost_ret (v := .agg #[.string nm, .slice VA vn vc]) (by simp [results, Tryz.results23, go_sem, s0, s1]) rfl ⟨_, rfl, ?_, ?_⟩
      · exact own_set (own_set HO.out (own_blk_ne HO.out HS.out (by decide)) _) (own_blk_ne HO.out HS.out (by decide)) _
      · exact (hx.setCell (by simp) _).setCell (by simp) _
end Go.Proofs.YtdmamobkgdpefaaGreat
