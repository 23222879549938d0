/- garmentlaw22.square -/
import Derived.Deep.RegionLaw
import Derived.Deep.AppendLies
import Derived.Test.YtnfchkkokgmliaaKSty
import Derived.Test.YtnfchkkokgmliaaKUpto
import Derived.Test.YtnfchkkokgmliaaKFld
namespace Go.Proofs.Ytnfchkkokgmliaa
open Go.RowKit
def sqNm (c : UInt8) : ByteArray := ⟨#[101, c]⟩
def sqAt : List Spot := [(0, 0), (10, 0), (10, 10), (0, 10), (0, 0)]
def sqP : Pc := ⟨[(sqNm 97, [(0, 0), (10, 0)]), (sqNm 98, [(10, 0), (10, 10)]), (sqNm 99, [(10, 10), (0, 10)]), (sqNm 100, [(0, 10), (0, 0)])], [(0, 0), (1, 0), (1, 0), (0, 0)], [0, 0, 0, 0], []⟩
def sqPs (b : Nat) : List EPart := [(sqNm 97, .slice (some ⟨b, 0, none⟩) 2 5), (sqNm 98, .slice (some ⟨b, 2, none⟩) 2 4), (sqNm 99, .slice (some ⟨b, 4, none⟩) 2 3), (sqNm 100, .slice (some ⟨b, 6, none⟩) 2 2)]
theorem make_ints4 (w : World) : (Instr.makeSlice 25 (.int .i64 4) (.int .i64 4)).run Try.prog w = .ok (.slice (some ⟨w.heap.size, 0, none⟩) 4 4) (w.alloc (.cells #[.int .i64 0, .int .i64 0, .int .i64 0, .int .i64 0] 3)) := by
  have h := run_make (P := Try.prog) w 25 3 (i := ((Try.prog.info? 3).getD default)) (z := .int .i64 0) Try.underlying25 (by kernel_rfl) (by kernel_rfl) .i64 .i64 4 4 (by omega) (by omega) (by
    rw [show ((Try.prog.info? 3).getD default).bytes = 8 from by kernel_rfl]; omega) (by omega)
  rw [show ((Try.prog.info? 3).getD default).size = 1 from by kernel_rfl] at h
  simpa [Value.cells, made_one, List.replicate] using h
theorem sq_str0 (zz : World) : (Instr.slice 9 (.string ⟨#[97, 98, 99, 100]⟩) (some (.int .i64 0)) (some (.int .i64 1)) none).run Try.prog zz = .ok (.string ⟨#[97]⟩) zz := by kernel_rfl
theorem sq_cat0 (zz : World) : (binOp .add 9 (.string ⟨#[101]⟩) (.string ⟨#[97]⟩)).run Try.prog zz = .ok (.string ⟨#[101, 97]⟩) zz := by kernel_rfl
theorem sq_sl0 (zz : World) (b : Nat) : (Instr.slice 24 (.slice (some ⟨b, 0, none⟩) 5 5) (some (.int .i64 0)) (some (.int .i64 2)) none).run Try.prog zz = .ok (.slice (some ⟨b, 0, none⟩) 2 5) zz := by kernel_rfl
theorem sq_str1 (zz : World) : (Instr.slice 9 (.string ⟨#[97, 98, 99, 100]⟩) (some (.int .i64 1)) (some (.int .i64 2)) none).run Try.prog zz = .ok (.string ⟨#[98]⟩) zz := by kernel_rfl
theorem sq_cat1 (zz : World) : (binOp .add 9 (.string ⟨#[101]⟩) (.string ⟨#[98]⟩)).run Try.prog zz = .ok (.string ⟨#[101, 98]⟩) zz := by kernel_rfl
theorem sq_sl1 (zz : World) (b : Nat) : (Instr.slice 24 (.slice (some ⟨b, 0, none⟩) 5 5) (some (.int .i64 1)) (some (.int .i64 3)) none).run Try.prog zz = .ok (.slice (some ⟨b, 2, none⟩) 2 4) zz := by kernel_rfl
theorem sq_str2 (zz : World) : (Instr.slice 9 (.string ⟨#[97, 98, 99, 100]⟩) (some (.int .i64 2)) (some (.int .i64 3)) none).run Try.prog zz = .ok (.string ⟨#[99]⟩) zz := by kernel_rfl
theorem sq_cat2 (zz : World) : (binOp .add 9 (.string ⟨#[101]⟩) (.string ⟨#[99]⟩)).run Try.prog zz = .ok (.string ⟨#[101, 99]⟩) zz := by kernel_rfl
theorem sq_sl2 (zz : World) (b : Nat) : (Instr.slice 24 (.slice (some ⟨b, 0, none⟩) 5 5) (some (.int .i64 2)) (some (.int .i64 4)) none).run Try.prog zz = .ok (.slice (some ⟨b, 4, none⟩) 2 3) zz := by kernel_rfl
theorem sq_str3 (zz : World) : (Instr.slice 9 (.string ⟨#[97, 98, 99, 100]⟩) (some (.int .i64 3)) (some (.int .i64 4)) none).run Try.prog zz = .ok (.string ⟨#[100]⟩) zz := by kernel_rfl
theorem sq_cat3 (zz : World) : (binOp .add 9 (.string ⟨#[101]⟩) (.string ⟨#[100]⟩)).run Try.prog zz = .ok (.string ⟨#[101, 100]⟩) zz := by kernel_rfl
theorem sq_sl3 (zz : World) (b : Nat) : (Instr.slice 24 (.slice (some ⟨b, 0, none⟩) 5 5) (some (.int .i64 3)) (some (.int .i64 5)) none).run Try.prog zz = .ok (.slice (some ⟨b, 6, none⟩) 2 2) zz := by kernel_rfl
def RetPc (w : World) (p : Pc) (e : Ending) (w' : World) : Prop := ∃ a, e = .returned (PcA.val a) ∧ (∀ W, Kept (fun k => k < w.heap.size) w' W → PcAt W a p) ∧ Ext w w'
theorem sq_line {w : World} {b : Nat} (h : Blk 38 w b (scells sqAt)) (o : Nat) (s0 s1 : Spot) (e0 : (scells sqAt)[o]? = some (.int .i64 s0.1)) (e1 : (scells sqAt)[o + 1]? = some (.int .i64 s0.2)) (e2 : (scells sqAt)[o + 2]? = some (.int .i64 s1.1)) (e3 : (scells sqAt)[o + 3]? = some (.int .i64 s1.2)) : SpotsAt w (some ⟨b, o, none⟩) [s0, s1] := by
  intro k hk
  match k, hk with
  | 0, _ => exact ⟨b, o, rfl, (h.cell o).trans e0, (h.cell (o + 1)).trans e1⟩
  | 1, _ => exact ⟨b, o, rfl, (h.cell (o + 2)).trans e2, (h.cell (o + 3)).trans e3⟩
theorem sq_fin {w W0 wr W9 : World} {g cap : Nat} (hO : wr.ownsRow W0.heap.size 42 2 (.slice (some ⟨g, 0, none⟩) 4 cap) 4 (ecells (sqPs (w.heap.size + 1)))) (hA : Blk 38 wr (w.heap.size + 1) (scells sqAt)) (hC : Blk 38 wr (w.heap.size + 1 + 1) (scells sqP.cs)) (hI : Blk 3 wr (w.heap.size + 1 + 1 + 1) (icells sqP.ws))
    (hW0 : w.heap.size < W0.heap.size) (hk : Kept (fun k => k ≤ w.heap.size) wr W9) (h4 : 4 ≤ cap) (hc : cap ≤ 9223372036854775807) :
    PcAt W9 ⟨⟨#[112]⟩, some ⟨g, 0, none⟩, 4, cap, 1, none, 0, 0, some ⟨w.heap.size + 1 + 1, 0, none⟩, 4, 4, some ⟨w.heap.size + 1 + 1 + 1, 0, none⟩, 4, 4, false⟩ sqP := by
  have hO' := own_kept hO hk (fun b hb e => by have := (World.ownsRow.lt hO b hb).1; omega)
  have hA' := hk.blk hA (by omega)
  have hC' := hk.blk hC (by omega)
  have hI' := hk.blk hI (by omega)
  have cl : ∀ j u, (ecells (sqPs (w.heap.size + 1)))[j]? = some u → W9.cell? ⟨g, j, none⟩ = some u := fun j u hu => by
    have := World.ownsRow.cells hO' (g := g) rfl j u hu
    rw [addr_add] at this
    simpa using this
  refine ⟨fun k hk => ?_, rfl, h4, hc, ?_, rfl, (by simp only; omega), ?_, rfl, SpotsAt.nil, rfl, (by simp only; omega), (by simp only; omega)⟩
  · match k, hk with
    | 0, _ => exact ⟨g, 0, some ⟨w.heap.size + 1, 0, none⟩, 5, rfl, cl 0 _ rfl, cl 1 _ rfl, sq_line hA' 0 (0, 0) (10, 0) rfl rfl rfl rfl, Nat.le_of_ble_eq_true rfl, by omega⟩
    | 1, _ => exact ⟨g, 0, some ⟨w.heap.size + 1, 2, none⟩, 4, rfl, cl 2 _ rfl, cl 3 _ rfl, sq_line hA' 2 (10, 0) (10, 10) rfl rfl rfl rfl, Nat.le_of_ble_eq_true rfl, by omega⟩
    | 2, _ => exact ⟨g, 0, some ⟨w.heap.size + 1, 4, none⟩, 3, rfl, cl 4 _ rfl, cl 5 _ rfl, sq_line hA' 4 (10, 10) (0, 10) rfl rfl rfl rfl, Nat.le_of_ble_eq_true rfl, by omega⟩
    | 3, _ => exact ⟨g, 0, some ⟨w.heap.size + 1, 6, none⟩, 2, rfl, cl 6 _ rfl, cl 7 _ rfl, sq_line hA' 6 (0, 10) (0, 0) rfl rfl rfl rfl, Nat.le_of_ble_eq_true rfl, by omega⟩
  · exact (OwnT.plain (own_of_blk (base := 0) (L := sqP.cs) hC' (Nat.zero_le _) (by decide))).2
  · exact (OwnI.plain (own_of_int (base := 0) (L := sqP.ws) hI' (Nat.zero_le _) (by decide))).2.1
set_option maxRecDepth 100000 in
set_option maxHeartbeats 3200000 in
theorem sq22_any (w : World) : Calls Try.prog 25 #[] w (RetPc w sqP) := by
  obtain ⟨i0, hi0, hz0, hz1, hz2⟩ := info_parts edge_info
  have hmk := make_ints4
  go_enter Try.func25, Try.ntmps25
  go_wp2_with fail
  refine wp_at fun W0 hW0 => ?_
  have hR : Blk 27 W0 w.heap.size [.string ⟨#[]⟩, .slice none 0 0, .int .i64 0, .slice none 0 0, .slice none 0 0, .slice none 0 0, .bool false] := by rw [hW0]; exact ((((Blk.new' rfl).ext ((Ext.refl _).alloc _)).ext ((Ext.refl _).alloc _)).ext ((Ext.refl _).alloc _)).ext ((Ext.refl _).alloc _)
  have hA : Blk 38 W0 (w.heap.size + 1) (scells sqAt) := by rw [hW0]; exact (((Blk.new' (by simp)).ext ((Ext.refl _).alloc _)).ext ((Ext.refl _).alloc _)).ext ((Ext.refl _).alloc _)
  have hC : Blk 38 W0 (w.heap.size + 1 + 1) (scells sqP.cs) := by rw [hW0]; exact ((Blk.new' (by simp)).ext ((Ext.refl _).alloc _)).ext ((Ext.refl _).alloc _)
  have hI : Blk 3 W0 (w.heap.size + 1 + 1 + 1) (icells sqP.ws) := by rw [hW0]; exact (Blk.new' (by simp)).ext ((Ext.refl _).alloc _)
  have hQ : Blk 27 W0 (w.heap.size + 1 + 1 + 1 + 1) [.string ⟨#[112]⟩, .slice none 0 0, .int .i64 1, .slice none 0 0, .slice (some ⟨w.heap.size + 1 + 1, 0, none⟩) 4 4, .slice (some ⟨w.heap.size + 1 + 1 + 1, 0, none⟩) 4 4, .bool false] := by rw [hW0]; exact Blk.new' (by simp)
  have hx0 : Ext w W0 := by rw [hW0]; exact (((((Ext.refl _).alloc _).alloc _).alloc _).alloc _).alloc _
  have hsz : W0.heap.size = w.heap.size + 5 := by rw [hW0]; simp
  have HR := Lib.hid hR; have HA := Lib.hid hA; have HC := Lib.hid hC; have HI := Lib.hid hI; have HQ0 := Lib.hid hQ; have HX0 := Lib.hid hx0; have HSZ := Lib.hid hsz
  clear hW0 hR hA hC hI hQ hx0 hsz hmk
  obtain ⟨ob, hob⟩ : ∃ ob, ob = w.heap.size + 1 + 1 + 1 + 1 := ⟨_, rfl⟩
  rw [← hob] at HQ0 ⊢
  have hobl : w.heap.size + 4 = ob := by omega
  have HOB := Lib.hid hobl; clear hob hobl
  have HKX : Hid (∀ wr, Kept (fun k => k = ob) W0 wr → Ext w wr) := fun wr h => h.ext HX0.out (fun k hk => by have := HOB.out; omega)
  go_loopw [3] (fun i wr => ∃ (k : Nat) (v : Value), k ≤ 4 ∧ i = .int .i64 k ∧ Blk 27 wr ob [.string ⟨#[112]⟩, v, .int .i64 1, .slice none 0 0, .slice (some ⟨w.heap.size + 1 + 1, 0, none⟩) 4 4, .slice (some ⟨w.heap.size + 1 + 1 + 1, 0, none⟩) 4 4, .bool false] ∧ wr.ownsRow W0.heap.size 42 2 v k (ecells ((sqPs (w.heap.size + 1)).take k)) ∧ Kept (fun k => k = ob) W0 wr) (fun i _ => 4 - (intOf i).toNat)
  case atStart => exact ⟨0, _, Nat.zero_le _, rfl, HQ0.out, World.ownsRow_nil _ _ _ _, Kept.refl _ _⟩
  case round =>
    obtain ⟨k, v, hk, rfl, hQ, hO, hK⟩ := hrel
    have HXw := Lib.hid (HKX.out _ hK)
    have HQ := Lib.hid hQ; have HO := Lib.hid hO; have HK := Lib.hid hK; clear hQ hO hK
    have hcl : W0.heap.size ≤ wr.heap.size := HK.out.size
    have hol : ob < wr.heap.size := HQ.out.lt
    have q1 := HQ.out.cell 1
    have fq1 := HQ.out.frozen 1
    simp only [List.getElem?_cons_succ, List.getElem?_cons_zero] at q1
    have HNE : Hid (Value.ownBlock v ≠ some ob) := own_blk_ne HO.out HQ.out (by decide)
    have HCC : Hid (Ext wr wr.drew) := Ext.drew (Ext.refl _)
    have z0 : ∀ z : World, Ext wr z → z.cell? ⟨ob, 1, none⟩ = some v := fun z h => h.cell q1
    have e1 : IntKind.i64.wrap 1 = 1 := by decide
    have e2 : IntKind.i64.wrap 2 = 2 := by decide
    have e3 : IntKind.i64.wrap 3 = 3 := by decide
    have e4 : IntKind.i64.wrap 4 = 4 := by decide
    have e5 : IntKind.i64.wrap 5 = 5 := by decide
    by_cases h0 : k = 0
    · subst h0
      have hs1 := sq_str0
      have hs2 := sq_cat0
      have hs3 := sq_sl0
      have CH : Hid (Ext wr (wr.alloc (.cells #[.string ⟨#[101, 97]⟩, .slice (some ⟨w.heap.size + 1, 0, none⟩) 2 5] 42)).drew) := Ext.drew (Ext.alloc (Ext.refl wr) _)
      go_wp2_with fail
      refine region_U' (n := 17) 14 (fun z => Ext wr z) (by kernel_rfl) (by kernel_rfl) ?_
      refine U_take0 (i := 0) (v := ?_) rfl (by kernel_rfl) (fun _ _ _ h => h) (Or.inl ⟨by rfl, ?_⟩) HCC.out ?_
      rotate_left
      · (intro zz hzz; (try dsimp only at hzz); go_simp; try with_reducible rfl)
      ((try simp only [Act.put]); (try simp only [List.setIfInBounds_toArray]); (try simp only [List.set_cons_succ]); (try simp only [List.set_cons_zero]))
      refine U_take (i := 1) (k := 1) (r := []) (v := ?_) rfl (by kernel_rfl) (fun _ _ _ h => h) (Or.inl ⟨by rfl, ?_⟩) HCC.out ?_
      rotate_left
      · (intro zz hzz; (try dsimp only at hzz); go_simp; try with_reducible rfl)
      ((try simp only [Act.put]); (try simp only [List.setIfInBounds_toArray]); (try simp only [List.set_cons_succ]); (try simp only [List.set_cons_zero]))
      refine U_take0 (i := 2) (v := ?_) rfl (by kernel_rfl) (fun _ _ _ h => h) (Or.inl ⟨by rfl, ?_⟩) HCC.out ?_
      rotate_left
      · (intro zz hzz; (try dsimp only at hzz); go_simp; try with_reducible rfl)
      ((try simp only [Act.put]); (try simp only [List.setIfInBounds_toArray]); (try simp only [List.set_cons_succ]); (try simp only [List.set_cons_zero]))
      refine U_take0 (i := 3) (v := ?_) rfl (by kernel_rfl) (fun _ _ _ h => h) (Or.inl ⟨by rfl, ?_⟩) HCC.out ?_
      rotate_left
      · (intro zz hzz; (try dsimp only at hzz); go_simp; try with_reducible rfl)
      ((try simp only [Act.put]); (try simp only [List.setIfInBounds_toArray]); (try simp only [List.set_cons_succ]); (try simp only [List.set_cons_zero]))
      refine U_take0 (i := 4) (v := ?_) rfl (by kernel_rfl) (fun _ _ _ h => h) (Or.inl ⟨by rfl, ?_⟩) HCC.out ?_
      rotate_left
      · (intro zz hzz; (try dsimp only at hzz); go_simp; try with_reducible rfl)
      ((try simp only [Act.put]); (try simp only [List.setIfInBounds_toArray]); (try simp only [List.set_cons_succ]); (try simp only [List.set_cons_zero]))
      refine U_take0 (i := 5) (v := ?_) rfl (by kernel_rfl) (fun _ _ _ h => h) (Or.inl ⟨by rfl, ?_⟩) HCC.out ?_
      rotate_left
      · (intro zz hzz; (try dsimp only at hzz); go_simp; try with_reducible rfl)
      ((try simp only [Act.put]); (try simp only [List.setIfInBounds_toArray]); (try simp only [List.set_cons_succ]); (try simp only [List.set_cons_zero]))
      refine U_take0 (i := 6) (v := ?_) rfl (by kernel_rfl) (fun _ _ _ h => h) (Or.inl ⟨by rfl, ?_⟩) HCC.out ?_
      rotate_left
      · (intro zz hzz; (try dsimp only at hzz); go_simp; try with_reducible rfl)
      ((try simp only [Act.put]); (try simp only [List.setIfInBounds_toArray]); (try simp only [List.set_cons_succ]); (try simp only [List.set_cons_zero]))
      refine U_take0 (i := 7) (v := ?_) rfl (by kernel_rfl) (fun _ _ _ h => h) (Or.inl ⟨by rfl, ?_⟩) HCC.out ?_
      rotate_left
      · (intro zz hzz; (try dsimp only at hzz); go_simp; try with_reducible rfl)
      ((try simp only [Act.put]); (try simp only [List.setIfInBounds_toArray]); (try simp only [List.set_cons_succ]); (try simp only [List.set_cons_zero]))
      refine U_take0 (i := 8) (v := ?_) rfl (by kernel_rfl) (fun _ _ _ h => h) (Or.inl ⟨by rfl, ?_⟩) HCC.out ?_
      rotate_left
      · (intro zz hzz; (try dsimp only at hzz); go_simp; try with_reducible rfl)
      ((try simp only [Act.put]); (try simp only [List.setIfInBounds_toArray]); (try simp only [List.set_cons_succ]); (try simp only [List.set_cons_zero]))
      refine U_take0 (i := 9) (v := ?_) rfl (by kernel_rfl) (fun _ _ _ h => h) (Or.inl ⟨by rfl, ?_⟩) HCC.out ?_
      rotate_left
      · (intro zz hzz; (try dsimp only at hzz); go_simp; try with_reducible rfl)
      ((try simp only [Act.put]); (try simp only [List.setIfInBounds_toArray]); (try simp only [List.set_cons_succ]); (try simp only [List.set_cons_zero]))
      refine U_take0 (i := 10) (v := ?_) rfl (by kernel_rfl) (fun _ _ _ h => h) (Or.inl ⟨by rfl, ?_⟩) HCC.out ?_
      rotate_left
      · (intro zz hzz; (try dsimp only at hzz); go_simp; try with_reducible rfl)
      ((try simp only [Act.put]); (try simp only [List.setIfInBounds_toArray]); (try simp only [List.set_cons_succ]); (try simp only [List.set_cons_zero]))
      refine U_take0 (i := 11) (v := ?_) rfl (by kernel_rfl) (fun _ _ _ h => h) (Or.inl ⟨by rfl, ?_⟩) HCC.out ?_
      rotate_left
      · (intro zz hzz; (try dsimp only at hzz); go_simp; try with_reducible rfl)
      ((try simp only [Act.put]); (try simp only [List.setIfInBounds_toArray]); (try simp only [List.set_cons_succ]); (try simp only [List.set_cons_zero]))
      refine U_take0 (i := 12) (v := ?_) rfl (by kernel_rfl) (fun _ _ _ h => h) (Or.inl ⟨by rfl, ?_⟩) HCC.out ?_
      rotate_left
      · (intro zz hzz; (try dsimp only at hzz); go_simp; try with_reducible rfl)
      ((try simp only [Act.put]); (try simp only [List.setIfInBounds_toArray]); (try simp only [List.set_cons_succ]); (try simp only [List.set_cons_zero]))
      refine U_one (i := 13) rfl (by kernel_rfl) ?_
      intro K hK
      go_simp
      refine hK _ _ (fun _ => CH.out) ?_
      clear hK K
      ((try simp only [Act.put]); (try simp only [List.setIfInBounds_toArray]); (try simp only [List.set_cons_succ]); (try simp only [List.set_cons_zero]))
      refine U_one (i := 14) rfl (by kernel_rfl) ?_
      intro K hK
      refine step_append_lies _ (by rfl) (.tmp 22) (.tmp 34) 22 (by rfl) W0.heap.size 42 i0 (.agg #[.string ⟨#[]⟩, .slice none 0 0]) 2 40 Try.underlying22 hi0 hz0 hz1 hz2 rfl (by decide) v 0 (ecells ((sqPs (w.heap.size + 1)).take 0)) (by rfl)
             (own_ext HO.out CH.out) ⟨wr.heap.size, 0, none⟩ 1 1 [.string ⟨#[101, 97]⟩, .slice (some ⟨w.heap.size + 1, 0, none⟩) 2 5] (by rfl) (by rfl)
             (World.news_of_block (cs := #[.string ⟨#[101, 97]⟩, .slice (some ⟨w.heap.size + 1, 0, none⟩) 2 5]) (t := 42) (fr := (0, 0)) (heap_alloc_new wr _)) (by simp [Value.oneCell']) (by decide) (by decide) (by decide)
             (Nat.le_trans hcl (Ext.size CH.out)) (wr.heap.size + 1) (by simp) ?_
      intro gg cap wn hown1 hgrow hat hltn
      have HQn := Lib.hid ((hgrow.block _ (HQ.out.ext CH.out).lt (Ne.symm HNE.out)).trans (HQ.out.ext CH.out))
      have y1 := Blk.cell HQn.out 1
      have yf := Blk.frozen HQn.out 1
      simp only [List.getElem?_cons_succ, List.getElem?_cons_zero] at y1
      refine hK _ _ (fun h => absurd (h.symm.trans (by kernel_rfl)) Bool.false_ne_true) ?_
      clear hK K
      ((try simp only [Act.put]); (try simp only [List.setIfInBounds_toArray]); (try simp only [List.set_cons_succ]); (try simp only [List.set_cons_zero]))
      refine U_one (i := 15) rfl (by kernel_rfl) ?_
      intro K hK
      go_simp
      refine hK _ _ (fun h => absurd (h.symm.trans (by kernel_rfl)) Bool.false_ne_true) ?_
      clear hK K
      ((try simp only [Act.put]); (try simp only [List.setIfInBounds_toArray]); (try simp only [List.set_cons_succ]); (try simp only [List.set_cons_zero]))
      refine U_one (i := 16) rfl (by kernel_rfl) ?_
      intro K hK
      go_simp
      refine hK _ _ (fun h => absurd (h.symm.trans (by kernel_rfl)) Bool.false_ne_true) ?_
      clear hK K
      refine U_done (by kernel_rfl) ?_
      have HFIN := Lib.hid (field_fin (wc := W0) (j := 1) (by decide) (HQ.out.ext CH.out) ⟨_, _, _, own_ext HO.out CH.out⟩ hgrow hown1 (HK.out.trans (CH.out.kept _)))
      clear hown1 hgrow hat hltn y1 yf z0 hs1 hs2 hs3
      go_wp2_with fail
      exact ⟨⟨1, .slice (some ⟨gg, 0, none⟩) 1 cap, by omega, by go_num, HFIN.out.1, HFIN.out.2.1, HFIN.out.2.2⟩, by simp [intOf]⟩
    by_cases h1 : k = 1
    · subst h1
      have hs1 := sq_str1
      have hs2 := sq_cat1
      have hs3 := sq_sl1
      have CH : Hid (Ext wr (wr.alloc (.cells #[.string ⟨#[101, 98]⟩, .slice (some ⟨w.heap.size + 1, 2, none⟩) 2 4] 42)).drew) := Ext.drew (Ext.alloc (Ext.refl wr) _)
      go_wp2_with fail
      refine region_U' (n := 17) 14 (fun z => Ext wr z) (by kernel_rfl) (by kernel_rfl) ?_
      refine U_take0 (i := 0) (v := ?_) rfl (by kernel_rfl) (fun _ _ _ h => h) (Or.inl ⟨by rfl, ?_⟩) HCC.out ?_
      rotate_left
      · (intro zz hzz; (try dsimp only at hzz); go_simp; try with_reducible rfl)
      ((try simp only [Act.put]); (try simp only [List.setIfInBounds_toArray]); (try simp only [List.set_cons_succ]); (try simp only [List.set_cons_zero]))
      refine U_take (i := 1) (k := 1) (r := []) (v := ?_) rfl (by kernel_rfl) (fun _ _ _ h => h) (Or.inl ⟨by rfl, ?_⟩) HCC.out ?_
      rotate_left
      · (intro zz hzz; (try dsimp only at hzz); go_simp; try with_reducible rfl)
      ((try simp only [Act.put]); (try simp only [List.setIfInBounds_toArray]); (try simp only [List.set_cons_succ]); (try simp only [List.set_cons_zero]))
      refine U_take0 (i := 2) (v := ?_) rfl (by kernel_rfl) (fun _ _ _ h => h) (Or.inl ⟨by rfl, ?_⟩) HCC.out ?_
      rotate_left
      · (intro zz hzz; (try dsimp only at hzz); go_simp; try with_reducible rfl)
      ((try simp only [Act.put]); (try simp only [List.setIfInBounds_toArray]); (try simp only [List.set_cons_succ]); (try simp only [List.set_cons_zero]))
      refine U_take0 (i := 3) (v := ?_) rfl (by kernel_rfl) (fun _ _ _ h => h) (Or.inl ⟨by rfl, ?_⟩) HCC.out ?_
      rotate_left
      · (intro zz hzz; (try dsimp only at hzz); go_simp; try with_reducible rfl)
      ((try simp only [Act.put]); (try simp only [List.setIfInBounds_toArray]); (try simp only [List.set_cons_succ]); (try simp only [List.set_cons_zero]))
      refine U_take0 (i := 4) (v := ?_) rfl (by kernel_rfl) (fun _ _ _ h => h) (Or.inl ⟨by rfl, ?_⟩) HCC.out ?_
      rotate_left
      · (intro zz hzz; (try dsimp only at hzz); go_simp; try with_reducible rfl)
      ((try simp only [Act.put]); (try simp only [List.setIfInBounds_toArray]); (try simp only [List.set_cons_succ]); (try simp only [List.set_cons_zero]))
      refine U_take0 (i := 5) (v := ?_) rfl (by kernel_rfl) (fun _ _ _ h => h) (Or.inl ⟨by rfl, ?_⟩) HCC.out ?_
      rotate_left
      · (intro zz hzz; (try dsimp only at hzz); go_simp; try with_reducible rfl)
      ((try simp only [Act.put]); (try simp only [List.setIfInBounds_toArray]); (try simp only [List.set_cons_succ]); (try simp only [List.set_cons_zero]))
      refine U_take0 (i := 6) (v := ?_) rfl (by kernel_rfl) (fun _ _ _ h => h) (Or.inl ⟨by rfl, ?_⟩) HCC.out ?_
      rotate_left
      · (intro zz hzz; (try dsimp only at hzz); go_simp; try with_reducible rfl)
      ((try simp only [Act.put]); (try simp only [List.setIfInBounds_toArray]); (try simp only [List.set_cons_succ]); (try simp only [List.set_cons_zero]))
      refine U_take0 (i := 7) (v := ?_) rfl (by kernel_rfl) (fun _ _ _ h => h) (Or.inl ⟨by rfl, ?_⟩) HCC.out ?_
      rotate_left
      · (intro zz hzz; (try dsimp only at hzz); go_simp; try with_reducible rfl)
      ((try simp only [Act.put]); (try simp only [List.setIfInBounds_toArray]); (try simp only [List.set_cons_succ]); (try simp only [List.set_cons_zero]))
      refine U_take0 (i := 8) (v := ?_) rfl (by kernel_rfl) (fun _ _ _ h => h) (Or.inl ⟨by rfl, ?_⟩) HCC.out ?_
      rotate_left
      · (intro zz hzz; (try dsimp only at hzz); go_simp; try with_reducible rfl)
      ((try simp only [Act.put]); (try simp only [List.setIfInBounds_toArray]); (try simp only [List.set_cons_succ]); (try simp only [List.set_cons_zero]))
      refine U_take0 (i := 9) (v := ?_) rfl (by kernel_rfl) (fun _ _ _ h => h) (Or.inl ⟨by rfl, ?_⟩) HCC.out ?_
      rotate_left
      · (intro zz hzz; (try dsimp only at hzz); go_simp; try with_reducible rfl)
      ((try simp only [Act.put]); (try simp only [List.setIfInBounds_toArray]); (try simp only [List.set_cons_succ]); (try simp only [List.set_cons_zero]))
      refine U_take0 (i := 10) (v := ?_) rfl (by kernel_rfl) (fun _ _ _ h => h) (Or.inl ⟨by rfl, ?_⟩) HCC.out ?_
      rotate_left
      · (intro zz hzz; (try dsimp only at hzz); go_simp; try with_reducible rfl)
      ((try simp only [Act.put]); (try simp only [List.setIfInBounds_toArray]); (try simp only [List.set_cons_succ]); (try simp only [List.set_cons_zero]))
      refine U_take0 (i := 11) (v := ?_) rfl (by kernel_rfl) (fun _ _ _ h => h) (Or.inl ⟨by rfl, ?_⟩) HCC.out ?_
      rotate_left
      · (intro zz hzz; (try dsimp only at hzz); go_simp; try with_reducible rfl)
      ((try simp only [Act.put]); (try simp only [List.setIfInBounds_toArray]); (try simp only [List.set_cons_succ]); (try simp only [List.set_cons_zero]))
      refine U_take0 (i := 12) (v := ?_) rfl (by kernel_rfl) (fun _ _ _ h => h) (Or.inl ⟨by rfl, ?_⟩) HCC.out ?_
      rotate_left
      · (intro zz hzz; (try dsimp only at hzz); go_simp; try with_reducible rfl)
      ((try simp only [Act.put]); (try simp only [List.setIfInBounds_toArray]); (try simp only [List.set_cons_succ]); (try simp only [List.set_cons_zero]))
      refine U_one (i := 13) rfl (by kernel_rfl) ?_
      intro K hK
      go_simp
      refine hK _ _ (fun _ => CH.out) ?_
      clear hK K
      ((try simp only [Act.put]); (try simp only [List.setIfInBounds_toArray]); (try simp only [List.set_cons_succ]); (try simp only [List.set_cons_zero]))
      refine U_one (i := 14) rfl (by kernel_rfl) ?_
      intro K hK
      refine step_append_lies _ (by rfl) (.tmp 22) (.tmp 34) 22 (by rfl) W0.heap.size 42 i0 (.agg #[.string ⟨#[]⟩, .slice none 0 0]) 2 40 Try.underlying22 hi0 hz0 hz1 hz2 rfl (by decide) v 1 (ecells ((sqPs (w.heap.size + 1)).take 1)) (by rfl)
             (own_ext HO.out CH.out) ⟨wr.heap.size, 0, none⟩ 1 1 [.string ⟨#[101, 98]⟩, .slice (some ⟨w.heap.size + 1, 2, none⟩) 2 4] (by rfl) (by rfl)
             (World.news_of_block (cs := #[.string ⟨#[101, 98]⟩, .slice (some ⟨w.heap.size + 1, 2, none⟩) 2 4]) (t := 42) (fr := (0, 0)) (heap_alloc_new wr _)) (by simp [Value.oneCell']) (by decide) (by decide) (by decide)
             (Nat.le_trans hcl (Ext.size CH.out)) (wr.heap.size + 1) (by simp) ?_
      intro gg cap wn hown1 hgrow hat hltn
      have HQn := Lib.hid ((hgrow.block _ (HQ.out.ext CH.out).lt (Ne.symm HNE.out)).trans (HQ.out.ext CH.out))
      have y1 := Blk.cell HQn.out 1
      have yf := Blk.frozen HQn.out 1
      simp only [List.getElem?_cons_succ, List.getElem?_cons_zero] at y1
      refine hK _ _ (fun h => absurd (h.symm.trans (by kernel_rfl)) Bool.false_ne_true) ?_
      clear hK K
      ((try simp only [Act.put]); (try simp only [List.setIfInBounds_toArray]); (try simp only [List.set_cons_succ]); (try simp only [List.set_cons_zero]))
      refine U_one (i := 15) rfl (by kernel_rfl) ?_
      intro K hK
      go_simp
      refine hK _ _ (fun h => absurd (h.symm.trans (by kernel_rfl)) Bool.false_ne_true) ?_
      clear hK K
      ((try simp only [Act.put]); (try simp only [List.setIfInBounds_toArray]); (try simp only [List.set_cons_succ]); (try simp only [List.set_cons_zero]))
      refine U_one (i := 16) rfl (by kernel_rfl) ?_
      intro K hK
      go_simp
      refine hK _ _ (fun h => absurd (h.symm.trans (by kernel_rfl)) Bool.false_ne_true) ?_
      clear hK K
      refine U_done (by kernel_rfl) ?_
      have HFIN := Lib.hid (field_fin (wc := W0) (j := 1) (by decide) (HQ.out.ext CH.out) ⟨_, _, _, own_ext HO.out CH.out⟩ hgrow hown1 (HK.out.trans (CH.out.kept _)))
      clear hown1 hgrow hat hltn y1 yf z0 hs1 hs2 hs3
      go_wp2_with fail
      exact ⟨⟨2, .slice (some ⟨gg, 0, none⟩) 2 cap, by omega, by go_num, HFIN.out.1, HFIN.out.2.1, HFIN.out.2.2⟩, by simp [intOf]⟩
    by_cases h2 : k = 2
    · subst h2
      have hs1 := sq_str2
      have hs2 := sq_cat2
      have hs3 := sq_sl2
      have CH : Hid (Ext wr (wr.alloc (.cells #[.string ⟨#[101, 99]⟩, .slice (some ⟨w.heap.size + 1, 4, none⟩) 2 3] 42)).drew) := Ext.drew (Ext.alloc (Ext.refl wr) _)
      go_wp2_with fail
      refine region_U' (n := 17) 14 (fun z => Ext wr z) (by kernel_rfl) (by kernel_rfl) ?_
      refine U_take0 (i := 0) (v := ?_) rfl (by kernel_rfl) (fun _ _ _ h => h) (Or.inl ⟨by rfl, ?_⟩) HCC.out ?_
      rotate_left
      · (intro zz hzz; (try dsimp only at hzz); go_simp; try with_reducible rfl)
      ((try simp only [Act.put]); (try simp only [List.setIfInBounds_toArray]); (try simp only [List.set_cons_succ]); (try simp only [List.set_cons_zero]))
      refine U_take (i := 1) (k := 1) (r := []) (v := ?_) rfl (by kernel_rfl) (fun _ _ _ h => h) (Or.inl ⟨by rfl, ?_⟩) HCC.out ?_
      rotate_left
      · (intro zz hzz; (try dsimp only at hzz); go_simp; try with_reducible rfl)
      ((try simp only [Act.put]); (try simp only [List.setIfInBounds_toArray]); (try simp only [List.set_cons_succ]); (try simp only [List.set_cons_zero]))
      refine U_take0 (i := 2) (v := ?_) rfl (by kernel_rfl) (fun _ _ _ h => h) (Or.inl ⟨by rfl, ?_⟩) HCC.out ?_
      rotate_left
      · (intro zz hzz; (try dsimp only at hzz); go_simp; try with_reducible rfl)
      ((try simp only [Act.put]); (try simp only [List.setIfInBounds_toArray]); (try simp only [List.set_cons_succ]); (try simp only [List.set_cons_zero]))
      refine U_take0 (i := 3) (v := ?_) rfl (by kernel_rfl) (fun _ _ _ h => h) (Or.inl ⟨by rfl, ?_⟩) HCC.out ?_
      rotate_left
      · (intro zz hzz; (try dsimp only at hzz); go_simp; try with_reducible rfl)
      ((try simp only [Act.put]); (try simp only [List.setIfInBounds_toArray]); (try simp only [List.set_cons_succ]); (try simp only [List.set_cons_zero]))
      refine U_take0 (i := 4) (v := ?_) rfl (by kernel_rfl) (fun _ _ _ h => h) (Or.inl ⟨by rfl, ?_⟩) HCC.out ?_
      rotate_left
      · (intro zz hzz; (try dsimp only at hzz); go_simp; try with_reducible rfl)
      ((try simp only [Act.put]); (try simp only [List.setIfInBounds_toArray]); (try simp only [List.set_cons_succ]); (try simp only [List.set_cons_zero]))
      refine U_take0 (i := 5) (v := ?_) rfl (by kernel_rfl) (fun _ _ _ h => h) (Or.inl ⟨by rfl, ?_⟩) HCC.out ?_
      rotate_left
      · (intro zz hzz; (try dsimp only at hzz); go_simp; try with_reducible rfl)
      ((try simp only [Act.put]); (try simp only [List.setIfInBounds_toArray]); (try simp only [List.set_cons_succ]); (try simp only [List.set_cons_zero]))
      refine U_take0 (i := 6) (v := ?_) rfl (by kernel_rfl) (fun _ _ _ h => h) (Or.inl ⟨by rfl, ?_⟩) HCC.out ?_
      rotate_left
      · (intro zz hzz; (try dsimp only at hzz); go_simp; try with_reducible rfl)
      ((try simp only [Act.put]); (try simp only [List.setIfInBounds_toArray]); (try simp only [List.set_cons_succ]); (try simp only [List.set_cons_zero]))
      refine U_take0 (i := 7) (v := ?_) rfl (by kernel_rfl) (fun _ _ _ h => h) (Or.inl ⟨by rfl, ?_⟩) HCC.out ?_
      rotate_left
      · (intro zz hzz; (try dsimp only at hzz); go_simp; try with_reducible rfl)
      ((try simp only [Act.put]); (try simp only [List.setIfInBounds_toArray]); (try simp only [List.set_cons_succ]); (try simp only [List.set_cons_zero]))
      refine U_take0 (i := 8) (v := ?_) rfl (by kernel_rfl) (fun _ _ _ h => h) (Or.inl ⟨by rfl, ?_⟩) HCC.out ?_
      rotate_left
      · (intro zz hzz; (try dsimp only at hzz); go_simp; try with_reducible rfl)
      ((try simp only [Act.put]); (try simp only [List.setIfInBounds_toArray]); (try simp only [List.set_cons_succ]); (try simp only [List.set_cons_zero]))
      refine U_take0 (i := 9) (v := ?_) rfl (by kernel_rfl) (fun _ _ _ h => h) (Or.inl ⟨by rfl, ?_⟩) HCC.out ?_
      rotate_left
      · (intro zz hzz; (try dsimp only at hzz); go_simp; try with_reducible rfl)
      ((try simp only [Act.put]); (try simp only [List.setIfInBounds_toArray]); (try simp only [List.set_cons_succ]); (try simp only [List.set_cons_zero]))
      refine U_take0 (i := 10) (v := ?_) rfl (by kernel_rfl) (fun _ _ _ h => h) (Or.inl ⟨by rfl, ?_⟩) HCC.out ?_
      rotate_left
      · (intro zz hzz; (try dsimp only at hzz); go_simp; try with_reducible rfl)
      ((try simp only [Act.put]); (try simp only [List.setIfInBounds_toArray]); (try simp only [List.set_cons_succ]); (try simp only [List.set_cons_zero]))
      refine U_take0 (i := 11) (v := ?_) rfl (by kernel_rfl) (fun _ _ _ h => h) (Or.inl ⟨by rfl, ?_⟩) HCC.out ?_
      rotate_left
      · (intro zz hzz; (try dsimp only at hzz); go_simp; try with_reducible rfl)
      ((try simp only [Act.put]); (try simp only [List.setIfInBounds_toArray]); (try simp only [List.set_cons_succ]); (try simp only [List.set_cons_zero]))
      refine U_take0 (i := 12) (v := ?_) rfl (by kernel_rfl) (fun _ _ _ h => h) (Or.inl ⟨by rfl, ?_⟩) HCC.out ?_
      rotate_left
      · (intro zz hzz; (try dsimp only at hzz); go_simp; try with_reducible rfl)
      ((try simp only [Act.put]); (try simp only [List.setIfInBounds_toArray]); (try simp only [List.set_cons_succ]); (try simp only [List.set_cons_zero]))
      refine U_one (i := 13) rfl (by kernel_rfl) ?_
      intro K hK
      go_simp
      refine hK _ _ (fun _ => CH.out) ?_
      clear hK K
      ((try simp only [Act.put]); (try simp only [List.setIfInBounds_toArray]); (try simp only [List.set_cons_succ]); (try simp only [List.set_cons_zero]))
      refine U_one (i := 14) rfl (by kernel_rfl) ?_
      intro K hK
      refine step_append_lies _ (by rfl) (.tmp 22) (.tmp 34) 22 (by rfl) W0.heap.size 42 i0 (.agg #[.string ⟨#[]⟩, .slice none 0 0]) 2 40 Try.underlying22 hi0 hz0 hz1 hz2 rfl (by decide) v 2 (ecells ((sqPs (w.heap.size + 1)).take 2)) (by rfl)
             (own_ext HO.out CH.out) ⟨wr.heap.size, 0, none⟩ 1 1 [.string ⟨#[101, 99]⟩, .slice (some ⟨w.heap.size + 1, 4, none⟩) 2 3] (by rfl) (by rfl)
             (World.news_of_block (cs := #[.string ⟨#[101, 99]⟩, .slice (some ⟨w.heap.size + 1, 4, none⟩) 2 3]) (t := 42) (fr := (0, 0)) (heap_alloc_new wr _)) (by simp [Value.oneCell']) (by decide) (by decide) (by decide)
             (Nat.le_trans hcl (Ext.size CH.out)) (wr.heap.size + 1) (by simp) ?_
      intro gg cap wn hown1 hgrow hat hltn
      have HQn := Lib.hid ((hgrow.block _ (HQ.out.ext CH.out).lt (Ne.symm HNE.out)).trans (HQ.out.ext CH.out))
      have y1 := Blk.cell HQn.out 1
      have yf := Blk.frozen HQn.out 1
      simp only [List.getElem?_cons_succ, List.getElem?_cons_zero] at y1
      refine hK _ _ (fun h => absurd (h.symm.trans (by kernel_rfl)) Bool.false_ne_true) ?_
      clear hK K
      ((try simp only [Act.put]); (try simp only [List.setIfInBounds_toArray]); (try simp only [List.set_cons_succ]); (try simp only [List.set_cons_zero]))
      refine U_one (i := 15) rfl (by kernel_rfl) ?_
      intro K hK
      go_simp
      refine hK _ _ (fun h => absurd (h.symm.trans (by kernel_rfl)) Bool.false_ne_true) ?_
      clear hK K
      ((try simp only [Act.put]); (try simp only [List.setIfInBounds_toArray]); (try simp only [List.set_cons_succ]); (try simp only [List.set_cons_zero]))
      refine U_one (i := 16) rfl (by kernel_rfl) ?_
      intro K hK
      go_simp
      refine hK _ _ (fun h => absurd (h.symm.trans (by kernel_rfl)) Bool.false_ne_true) ?_
      clear hK K
      refine U_done (by kernel_rfl) ?_
      have HFIN := Lib.hid (field_fin (wc := W0) (j := 1) (by decide) (HQ.out.ext CH.out) ⟨_, _, _, own_ext HO.out CH.out⟩ hgrow hown1 (HK.out.trans (CH.out.kept _)))
      clear hown1 hgrow hat hltn y1 yf z0 hs1 hs2 hs3
      go_wp2_with fail
      exact ⟨⟨3, .slice (some ⟨gg, 0, none⟩) 3 cap, by omega, by go_num, HFIN.out.1, HFIN.out.2.1, HFIN.out.2.2⟩, by simp [intOf]⟩
    by_cases h3 : k = 3
    · subst h3
      have hs1 := sq_str3
      have hs2 := sq_cat3
      have hs3 := sq_sl3
      have CH : Hid (Ext wr (wr.alloc (.cells #[.string ⟨#[101, 100]⟩, .slice (some ⟨w.heap.size + 1, 6, none⟩) 2 2] 42)).drew) := Ext.drew (Ext.alloc (Ext.refl wr) _)
      go_wp2_with fail
      refine region_U' (n := 17) 14 (fun z => Ext wr z) (by kernel_rfl) (by kernel_rfl) ?_
      refine U_take0 (i := 0) (v := ?_) rfl (by kernel_rfl) (fun _ _ _ h => h) (Or.inl ⟨by rfl, ?_⟩) HCC.out ?_
      rotate_left
      · (intro zz hzz; (try dsimp only at hzz); go_simp; try with_reducible rfl)
      ((try simp only [Act.put]); (try simp only [List.setIfInBounds_toArray]); (try simp only [List.set_cons_succ]); (try simp only [List.set_cons_zero]))
      refine U_take (i := 1) (k := 1) (r := []) (v := ?_) rfl (by kernel_rfl) (fun _ _ _ h => h) (Or.inl ⟨by rfl, ?_⟩) HCC.out ?_
      rotate_left
      · (intro zz hzz; (try dsimp only at hzz); go_simp; try with_reducible rfl)
      ((try simp only [Act.put]); (try simp only [List.setIfInBounds_toArray]); (try simp only [List.set_cons_succ]); (try simp only [List.set_cons_zero]))
      refine U_take0 (i := 2) (v := ?_) rfl (by kernel_rfl) (fun _ _ _ h => h) (Or.inl ⟨by rfl, ?_⟩) HCC.out ?_
      rotate_left
      · (intro zz hzz; (try dsimp only at hzz); go_simp; try with_reducible rfl)
      ((try simp only [Act.put]); (try simp only [List.setIfInBounds_toArray]); (try simp only [List.set_cons_succ]); (try simp only [List.set_cons_zero]))
      refine U_take0 (i := 3) (v := ?_) rfl (by kernel_rfl) (fun _ _ _ h => h) (Or.inl ⟨by rfl, ?_⟩) HCC.out ?_
      rotate_left
      · (intro zz hzz; (try dsimp only at hzz); go_simp; try with_reducible rfl)
      ((try simp only [Act.put]); (try simp only [List.setIfInBounds_toArray]); (try simp only [List.set_cons_succ]); (try simp only [List.set_cons_zero]))
      refine U_take0 (i := 4) (v := ?_) rfl (by kernel_rfl) (fun _ _ _ h => h) (Or.inl ⟨by rfl, ?_⟩) HCC.out ?_
      rotate_left
      · (intro zz hzz; (try dsimp only at hzz); go_simp; try with_reducible rfl)
      ((try simp only [Act.put]); (try simp only [List.setIfInBounds_toArray]); (try simp only [List.set_cons_succ]); (try simp only [List.set_cons_zero]))
      refine U_take0 (i := 5) (v := ?_) rfl (by kernel_rfl) (fun _ _ _ h => h) (Or.inl ⟨by rfl, ?_⟩) HCC.out ?_
      rotate_left
      · (intro zz hzz; (try dsimp only at hzz); go_simp; try with_reducible rfl)
      ((try simp only [Act.put]); (try simp only [List.setIfInBounds_toArray]); (try simp only [List.set_cons_succ]); (try simp only [List.set_cons_zero]))
      refine U_take0 (i := 6) (v := ?_) rfl (by kernel_rfl) (fun _ _ _ h => h) (Or.inl ⟨by rfl, ?_⟩) HCC.out ?_
      rotate_left
      · (intro zz hzz; (try dsimp only at hzz); go_simp; try with_reducible rfl)
      ((try simp only [Act.put]); (try simp only [List.setIfInBounds_toArray]); (try simp only [List.set_cons_succ]); (try simp only [List.set_cons_zero]))
      refine U_take0 (i := 7) (v := ?_) rfl (by kernel_rfl) (fun _ _ _ h => h) (Or.inl ⟨by rfl, ?_⟩) HCC.out ?_
      rotate_left
      · (intro zz hzz; (try dsimp only at hzz); go_simp; try with_reducible rfl)
      ((try simp only [Act.put]); (try simp only [List.setIfInBounds_toArray]); (try simp only [List.set_cons_succ]); (try simp only [List.set_cons_zero]))
      refine U_take0 (i := 8) (v := ?_) rfl (by kernel_rfl) (fun _ _ _ h => h) (Or.inl ⟨by rfl, ?_⟩) HCC.out ?_
      rotate_left
      · (intro zz hzz; (try dsimp only at hzz); go_simp; try with_reducible rfl)
      ((try simp only [Act.put]); (try simp only [List.setIfInBounds_toArray]); (try simp only [List.set_cons_succ]); (try simp only [List.set_cons_zero]))
      refine U_take0 (i := 9) (v := ?_) rfl (by kernel_rfl) (fun _ _ _ h => h) (Or.inl ⟨by rfl, ?_⟩) HCC.out ?_
      rotate_left
      · (intro zz hzz; (try dsimp only at hzz); go_simp; try with_reducible rfl)
      ((try simp only [Act.put]); (try simp only [List.setIfInBounds_toArray]); (try simp only [List.set_cons_succ]); (try simp only [List.set_cons_zero]))
      refine U_take0 (i := 10) (v := ?_) rfl (by kernel_rfl) (fun _ _ _ h => h) (Or.inl ⟨by rfl, ?_⟩) HCC.out ?_
      rotate_left
      · (intro zz hzz; (try dsimp only at hzz); go_simp; try with_reducible rfl)
      ((try simp only [Act.put]); (try simp only [List.setIfInBounds_toArray]); (try simp only [List.set_cons_succ]); (try simp only [List.set_cons_zero]))
      refine U_take0 (i := 11) (v := ?_) rfl (by kernel_rfl) (fun _ _ _ h => h) (Or.inl ⟨by rfl, ?_⟩) HCC.out ?_
      rotate_left
      · (intro zz hzz; (try dsimp only at hzz); go_simp; try with_reducible rfl)
      ((try simp only [Act.put]); (try simp only [List.setIfInBounds_toArray]); (try simp only [List.set_cons_succ]); (try simp only [List.set_cons_zero]))
      refine U_take0 (i := 12) (v := ?_) rfl (by kernel_rfl) (fun _ _ _ h => h) (Or.inl ⟨by rfl, ?_⟩) HCC.out ?_
      rotate_left
      · (intro zz hzz; (try dsimp only at hzz); go_simp; try with_reducible rfl)
      ((try simp only [Act.put]); (try simp only [List.setIfInBounds_toArray]); (try simp only [List.set_cons_succ]); (try simp only [List.set_cons_zero]))
      refine U_one (i := 13) rfl (by kernel_rfl) ?_
      intro K hK
      go_simp
      refine hK _ _ (fun _ => CH.out) ?_
      clear hK K
      ((try simp only [Act.put]); (try simp only [List.setIfInBounds_toArray]); (try simp only [List.set_cons_succ]); (try simp only [List.set_cons_zero]))
      refine U_one (i := 14) rfl (by kernel_rfl) ?_
      intro K hK
      refine step_append_lies _ (by rfl) (.tmp 22) (.tmp 34) 22 (by rfl) W0.heap.size 42 i0 (.agg #[.string ⟨#[]⟩, .slice none 0 0]) 2 40 Try.underlying22 hi0 hz0 hz1 hz2 rfl (by decide) v 3 (ecells ((sqPs (w.heap.size + 1)).take 3)) (by rfl)
             (own_ext HO.out CH.out) ⟨wr.heap.size, 0, none⟩ 1 1 [.string ⟨#[101, 100]⟩, .slice (some ⟨w.heap.size + 1, 6, none⟩) 2 2] (by rfl) (by rfl)
             (World.news_of_block (cs := #[.string ⟨#[101, 100]⟩, .slice (some ⟨w.heap.size + 1, 6, none⟩) 2 2]) (t := 42) (fr := (0, 0)) (heap_alloc_new wr _)) (by simp [Value.oneCell']) (by decide) (by decide) (by decide)
             (Nat.le_trans hcl (Ext.size CH.out)) (wr.heap.size + 1) (by simp) ?_
      intro gg cap wn hown1 hgrow hat hltn
      have HQn := Lib.hid ((hgrow.block _ (HQ.out.ext CH.out).lt (Ne.symm HNE.out)).trans (HQ.out.ext CH.out))
      have y1 := Blk.cell HQn.out 1
      have yf := Blk.frozen HQn.out 1
      simp only [List.getElem?_cons_succ, List.getElem?_cons_zero] at y1
      refine hK _ _ (fun h => absurd (h.symm.trans (by kernel_rfl)) Bool.false_ne_true) ?_
      clear hK K
      ((try simp only [Act.put]); (try simp only [List.setIfInBounds_toArray]); (try simp only [List.set_cons_succ]); (try simp only [List.set_cons_zero]))
      refine U_one (i := 15) rfl (by kernel_rfl) ?_
      intro K hK
      go_simp
      refine hK _ _ (fun h => absurd (h.symm.trans (by kernel_rfl)) Bool.false_ne_true) ?_
      clear hK K
      ((try simp only [Act.put]); (try simp only [List.setIfInBounds_toArray]); (try simp only [List.set_cons_succ]); (try simp only [List.set_cons_zero]))
      refine U_one (i := 16) rfl (by kernel_rfl) ?_
      intro K hK
      go_simp
      refine hK _ _ (fun h => absurd (h.symm.trans (by kernel_rfl)) Bool.false_ne_true) ?_
      clear hK K
      refine U_done (by kernel_rfl) ?_
      have HFIN := Lib.hid (field_fin (wc := W0) (j := 1) (by decide) (HQ.out.ext CH.out) ⟨_, _, _, own_ext HO.out CH.out⟩ hgrow hown1 (HK.out.trans (CH.out.kept _)))
      clear hown1 hgrow hat hltn y1 yf z0 hs1 hs2 hs3
      go_wp2_with fail
      exact ⟨⟨4, .slice (some ⟨gg, 0, none⟩) 4 cap, by omega, by go_num, HFIN.out.1, HFIN.out.2.1, HFIN.out.2.2⟩, by simp [intOf]⟩
    obtain rfl : k = 4 := by omega
    have hvf : ∃ g cap, v = .slice (some ⟨g, 0, none⟩) 4 cap ∧ 4 ≤ cap ∧ cap ≤ 9223372036854775807 := by
      rcases HO.out.2 with ⟨_, h0⟩ | ⟨g, cap, cur, hv, hb, hh, hn, hm, _⟩
      · cases h0
      · exact ⟨g, cap, hv, hn, hm⟩
    obtain ⟨g, cap, hvf, hc4, hcm⟩ := hvf
    subst hvf
    have hobv := HOB.out
    have HRr := Lib.hid (HK.out.blk HR.out (by omega)); have HAr := Lib.hid (HK.out.blk HA.out (by omega)); have HCr := Lib.hid (HK.out.blk HC.out (by omega)); have HIr := Lib.hid (HK.out.blk HI.out (by omega))
    obtain ⟨q0, _, q2, q3, q4, q5, q6⟩ := blk7 HQ.out
    obtain ⟨r0, r1, r2, r3, r4, r5, r6⟩ := blk7 HRr.out
    have f0 := HRr.out.frozen 0
    have f1 := HRr.out.frozen 1
    have f2 := HRr.out.frozen 2
    have f3 := HRr.out.frozen 3
    have f4 := HRr.out.frozen 4
    have f5 := HRr.out.frozen 5
    have f6 := HRr.out.frozen 6
    clear hobv fq1 z0 e1 e2 e3 e5
    go_wp2_with fail
    refine bodyPost_ret (v := .agg #[.string ⟨#[112]⟩, .slice (some ⟨g, 0, none⟩) 4 cap, .int .i64 1, .slice none 0 0, .slice (some ⟨w.heap.size + 1 + 1, 0, none⟩) 4 4, .slice (some ⟨w.heap.size + 1 + 1 + 1, 0, none⟩) 4 4, .bool false]) (by simp [results, Try.results25, go_sem, r0, r1, r2, r3, r4, r5, r6]) rfl ?_
    have hkk := kset (kset (kset (kset (kset (kset (kset (Kept.refl (fun k => k = w.heap.size) wr) 0 (.string ⟨#[112]⟩)) 1 (.slice (some ⟨g, 0, none⟩) 4 cap)) 2 (.int .i64 1)) 3 (.slice none 0 0)) 4 (.slice (some ⟨w.heap.size + 1 + 1, 0, none⟩) 4 4)) 5 (.slice (some ⟨w.heap.size + 1 + 1 + 1, 0, none⟩) 4 4)) 6 (.bool false)
    exact ⟨_, rfl, fun W hKW => sq_fin HO.out HAr.out HCr.out HIr.out (by have := HSZ.out; omega) ((hkk.mono (fun k _ h => Nat.le_of_eq h)).trans (hKW.mono (fun k _ h => Nat.le_of_lt h))) hc4 hcm, hkk.ext HXw.out (fun k hk => by omega)⟩
end Go.Proofs.Ytnfchkkokgmliaa
