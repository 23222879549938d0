/- garmentlaw21.edge -/
import Derived.Test.YtpmfikkcidgoeaaSame
import Derived.Deep.RegionLaw
namespace Go.Proofs.Ytpmfikkcidgoeaa
open Go.RowKit
def pairs4 (a b c d : Int) : List Spot := [(a, b), (c, d)]
def IntCells (w : World) (b off : Nat) (x0 x1 x2 x3 : Int) : Prop := w.cell? ⟨b, off, none⟩ = some (.int .i64 x0) ∧ w.cell? ⟨b, off + 1, none⟩ = some (.int .i64 x1) ∧ w.cell? ⟨b, off + 2, none⟩ = some (.int .i64 x2) ∧ w.cell? ⟨b, off + 3, none⟩ = some (.int .i64 x3)
theorem IntCells.ext {w w' : World} {b off : Nat} {x0 x1 x2 x3 : Int} (h : IntCells w b off x0 x1 x2 x3) (he : Ext w w') : IntCells w' b off x0 x1 x2 x3 := ⟨he.cell h.1, he.cell h.2.1, he.cell h.2.2.1, he.cell h.2.2.2⟩
def RetEd (w : World) (nm : ByteArray) (l : List Spot) (e : Ending) (w' : World) : Prop := ∃ v, e = .returned (.agg #[.string nm, v]) ∧ OwnT 44 w' w.heap.size v l ∧ Ext w w'
theorem edge_fin {w W wn : World} {nm : ByteArray} {v0 v : Value} {L : List Spot} {V : Value} (hS : Blk 42 W w.heap.size [.string ⟨#[]⟩, .slice none 0 0]) (hX : Blk 42 W (w.heap.size + 1) [.string nm, v0])
    (h1 : V.ownBlock ≠ some (w.heap.size + 1)) (h0 : V.ownBlock ≠ some w.heap.size) (hg : W.grownBy wn V.ownBlock) (ho : wn.ownsRow w.heap.size 44 2 v L.length (scells L)) (hx : Ext w W) (hb : ∀ g, V.ownBlock = some g → w.heap.size ≤ g) :
    Blk 42 (wn.setCell ⟨w.heap.size + 1, 1, none⟩ v) w.heap.size [.string ⟨#[]⟩, .slice none 0 0] ∧ Blk 42 (wn.setCell ⟨w.heap.size + 1, 1, none⟩ v) (w.heap.size + 1) [.string nm, v] ∧ OwnT 44 (wn.setCell ⟨w.heap.size + 1, 1, none⟩ v) w.heap.size v L ∧ Ext w (wn.setCell ⟨w.heap.size + 1, 1, none⟩ v) := by
  have hS' : Blk 42 wn w.heap.size [.string ⟨#[]⟩, .slice none 0 0] := (hg.block _ hS.lt (Ne.symm h0)).trans hS
  have hX' : Blk 42 wn (w.heap.size + 1) [.string nm, v0] := (hg.block _ hX.lt (Ne.symm h1)).trans hX
  exact ⟨hS'.other (by simp) v, hX'.set 1 v, own_set ho (own_blk_ne ho hX' (by decide)) v, (hx.grown hg hb).setCell (by simp) v⟩
set_option maxRecDepth 100000 in
set_option maxHeartbeats 1600000 in
theorem edge_any (nm : ByteArray) (b off c : Nat) (x0 x1 x2 x3 : Int) (w : World) (hc : IntCells w b off x0 x1 x2 x3) :
    Calls Try.prog 34 #[.string nm, .slice (some ⟨b, off, none⟩) 4 c] w (RetEd w nm (pairs4 x0 x1 x2 x3)) := by
  have HC := Lib.hid hc; clear hc
  obtain ⟨i0, hi0, hz0, hz1, hz2⟩ := info_parts spot_info
  have hbl : b < w.heap.size := cell_lt HC.out.1
  go_enter Try.func34, Try.ntmps34
  go_wp2_with fail
  refine wp_at fun W0 hW0 => ?_
  have hS : Blk 42 W0 w.heap.size [.string ⟨#[]⟩, .slice none 0 0] := by rw [hW0]; exact (Blk.new' rfl).ext ((Ext.refl _).alloc _)
  have hX : Blk 42 W0 (w.heap.size + 1) [.string nm, .slice none 0 0] := by rw [hW0]; exact Blk.new' (by simp)
  have hx0 : Ext w W0 := by rw [hW0]; exact ((Ext.refl _).alloc _).alloc _
  clear hW0
  go_loopw [6] (fun i wr => ∃ (k : Nat) (v : Value), k ≤ 2 ∧ i = .int .i64 (2 * k) ∧ Blk 42 wr w.heap.size [.string ⟨#[]⟩, .slice none 0 0] ∧ Blk 42 wr (w.heap.size + 1) [.string nm, v] ∧ OwnT 44 wr w.heap.size v ((pairs4 x0 x1 x2 x3).take k) ∧ Ext w wr) (fun i _ => 4 - (intOf i).toNat)
  case atStart => exact ⟨0, _, by omega, rfl, hS, hX, World.ownsRow_nil _ _ _ _, hx0⟩
  case round =>
    clear hS hX hx0
    obtain ⟨k, v, hk, rfl, hS, hX, hO, hx⟩ := hrel
    have HS := Lib.hid hS; have HX := Lib.hid hX; have HO := Lib.hid hO; clear hS hX hO
    obtain ⟨c0, c1, c2, c3⟩ := HC.out.ext hx
    have hxl : w.heap.size + 1 < wr.heap.size := HX.out.lt
    have x1' := HX.out.cell 1
    have fx1 := HX.out.frozen 1
    simp only [List.getElem?_cons_succ, List.getElem?_cons_zero] at x1'
    obtain ⟨VA, vn, vc, rfl⟩ : ∃ VA vn vc, v = .slice VA vn vc := by
      rcases HO.out.2 with ⟨h, _⟩ | ⟨g, cap, cur, h, _⟩
      · exact ⟨_, _, _, h⟩
      · exact ⟨_, _, _, h⟩
    have hw1 : IntKind.i64.wrap 1 = 1 := IntWalk.i64_in _ (by omega)
    have hw3 : IntKind.i64.wrap 3 = 3 := IntWalk.i64_in _ (by omega)
    obtain rfl | rfl | rfl : k = 0 ∨ k = 1 ∨ k = 2 := by omega
    · have HOW : Hid (World.ownsRow (wr.alloc (.cells #[.int .i64 x0, .int .i64 x1] 44)).drew w.heap.size 44 2 (.slice VA vn vc) 0 (scells ((pairs4 x0 x1 x2 x3).take 0))) := own_ext HO.out (((Ext.refl wr).alloc (.cells #[.int .i64 x0, .int .i64 x1] 44)).drew)
      have H6 : Hid (w.heap.size ≤ (wr.alloc (.cells #[.int .i64 x0, .int .i64 x1] 44)).drew.heap.size) := Ext.size (hx.trans (((Ext.refl wr).alloc (.cells #[.int .i64 x0, .int .i64 x1] 44)).drew))
      have HXX := Lib.hid (HX.out.ext (((Ext.refl wr).alloc (.cells #[.int .i64 x0, .int .i64 x1] 44)).drew))
      have HSS := Lib.hid (HS.out.ext (((Ext.refl wr).alloc (.cells #[.int .i64 x0, .int .i64 x1] 44)).drew))
      have HNE : Hid (Value.ownBlock (.slice VA vn vc) ≠ some (w.heap.size + 1)) := own_blk_ne HO.out HX.out (by decide)
      have HNE0 : Hid (Value.ownBlock (.slice VA vn vc) ≠ some w.heap.size) := own_blk_ne HO.out HS.out (by decide)
      have HEX : Hid (Ext w (wr.alloc (.cells #[.int .i64 x0, .int .i64 x1] 44)).drew) := (hx.alloc (.cells #[.int .i64 x0, .int .i64 x1] 44)).drew
      go_wp2_with fail
      go_region_law (first | (refine step_append_lies _ (by rfl) (.tmp 17) (.tmp 28) 24 (by rfl) w.heap.size 44 i0 (.agg #[.int .i64 0, .int .i64 0]) 2 16 Try.underlying24 hi0 hz0 hz1 hz2 rfl (by decide) (.slice VA vn vc) 0 (scells ((pairs4 x0 x1 x2 x3).take 0)) (by rfl) HOW.out ⟨wr.heap.size, 0, none⟩ 1 1 [.int .i64 x0, .int .i64 x1] (by rfl) (by rfl) (World.news_of_block (cs := #[.int .i64 x0, .int .i64 x1]) (t := 44) (fr := (0, 0)) (heap_alloc_new wr _)) (by simp [Value.oneCell']) (by decide) (by decide) (by decide) H6.out (wr.heap.size + 1) (by simp) ?_; intro gg cap wn hown1 hgrow hat hltn; have y1 := (World.cell?_of_block (a := ⟨w.heap.size + 1, 1, none⟩) (hgrow.block _ HXX.out.lt (Ne.symm HNE.out))).trans (HXX.out.cell 1); have yf := (World.frozen?_of_block (a := ⟨w.heap.size + 1, 1, none⟩) (hgrow.block _ HXX.out.lt (Ne.symm HNE.out))).trans (HXX.out.frozen 1); simp only [List.getElem?_cons_succ, List.getElem?_cons_zero] at y1) | fail)
      all_goals
        have HFIN := Lib.hid (edge_fin HSS.out HXX.out HNE.out HNE0.out hgrow (L := (pairs4 x0 x1 x2 x3).take (0 + 1)) hown1 HEX.out (fun g hg => own_ge HO.out hg))
        clear hown1 hgrow hat hltn
        go_wp2_with fail
        exact ⟨⟨0 + 1, _, by omega, rfl, HFIN.out⟩, by simp [intOf]⟩
    · have HOW : Hid (World.ownsRow (wr.alloc (.cells #[.int .i64 x2, .int .i64 x3] 44)).drew w.heap.size 44 2 (.slice VA vn vc) 1 (scells ((pairs4 x0 x1 x2 x3).take 1))) := own_ext HO.out (((Ext.refl wr).alloc (.cells #[.int .i64 x2, .int .i64 x3] 44)).drew)
      have H6 : Hid (w.heap.size ≤ (wr.alloc (.cells #[.int .i64 x2, .int .i64 x3] 44)).drew.heap.size) := Ext.size (hx.trans (((Ext.refl wr).alloc (.cells #[.int .i64 x2, .int .i64 x3] 44)).drew))
      have HXX := Lib.hid (HX.out.ext (((Ext.refl wr).alloc (.cells #[.int .i64 x2, .int .i64 x3] 44)).drew))
      have HSS := Lib.hid (HS.out.ext (((Ext.refl wr).alloc (.cells #[.int .i64 x2, .int .i64 x3] 44)).drew))
      have HNE : Hid (Value.ownBlock (.slice VA vn vc) ≠ some (w.heap.size + 1)) := own_blk_ne HO.out HX.out (by decide)
      have HNE0 : Hid (Value.ownBlock (.slice VA vn vc) ≠ some w.heap.size) := own_blk_ne HO.out HS.out (by decide)
      have HEX : Hid (Ext w (wr.alloc (.cells #[.int .i64 x2, .int .i64 x3] 44)).drew) := (hx.alloc (.cells #[.int .i64 x2, .int .i64 x3] 44)).drew
      go_wp2_with fail
      go_region_law (first | (refine step_append_lies _ (by rfl) (.tmp 17) (.tmp 28) 24 (by rfl) w.heap.size 44 i0 (.agg #[.int .i64 0, .int .i64 0]) 2 16 Try.underlying24 hi0 hz0 hz1 hz2 rfl (by decide) (.slice VA vn vc) 1 (scells ((pairs4 x0 x1 x2 x3).take 1)) (by rfl) HOW.out ⟨wr.heap.size, 0, none⟩ 1 1 [.int .i64 x2, .int .i64 x3] (by rfl) (by rfl) (World.news_of_block (cs := #[.int .i64 x2, .int .i64 x3]) (t := 44) (fr := (0, 0)) (heap_alloc_new wr _)) (by simp [Value.oneCell']) (by decide) (by decide) (by decide) H6.out (wr.heap.size + 1) (by simp) ?_; intro gg cap wn hown1 hgrow hat hltn; have y1 := (World.cell?_of_block (a := ⟨w.heap.size + 1, 1, none⟩) (hgrow.block _ HXX.out.lt (Ne.symm HNE.out))).trans (HXX.out.cell 1); have yf := (World.frozen?_of_block (a := ⟨w.heap.size + 1, 1, none⟩) (hgrow.block _ HXX.out.lt (Ne.symm HNE.out))).trans (HXX.out.frozen 1); simp only [List.getElem?_cons_succ, List.getElem?_cons_zero] at y1) | fail)
      all_goals
        have HFIN := Lib.hid (edge_fin HSS.out HXX.out HNE.out HNE0.out hgrow (L := (pairs4 x0 x1 x2 x3).take (1 + 1)) hown1 HEX.out (fun g hg => own_ge HO.out hg))
        clear hown1 hgrow hat hltn
        go_wp2_with fail
        exact ⟨⟨1 + 1, _, by omega, rfl, HFIN.out⟩, by simp [intOf]⟩
    · have s0 := HS.out.cell 0
      have s1 := HS.out.cell 1
      have fs0 := HS.out.frozen 0
      have fs1 := HS.out.frozen 1
      have x0' := HX.out.cell 0
      simp only [List.getElem?_cons_succ, List.getElem?_cons_zero] at s0 s1 x0'
      go_wp2_with fail
      refine bodyPost_ret (v := .agg #[.string nm, .slice VA vn vc]) (by simp [results, Try.results34, go_sem, s0, s1]) rfl ⟨_, rfl, ?_, ?_⟩
      · exact own_set (own_set HO.out (own_blk_ne HO.out HS.out (by decide)) _) (own_blk_ne HO.out HS.out (by decide)) _
      · exact (hx.setCell (by simp) _).setCell (by simp) _
end Go.Proofs.Ytpmfikkcidgoeaa
