/- the reference: garmentref21.Graded -/
import Derived.Deep.RegionLaw
import Derived.Deep.CutRange
import Derived.Deep.RegionHeld3
import Derived.Test.YtliijigdbpmpaaaGreatKRefL
import Derived.Test.YtliijigdbpmpaaaGreatKFld
import Derived.Test.YtliijigdbpmpaaaGreatKUpto
/- the reference: garmentref21.round, within, graded -/
namespace Go.Proofs.YtliijigdbpmpaaaGreat
open Go.RowKit
theorem rround_any (a b : Int) (w : World) (h0 : -1000000000000000 ≤ a) (h1 : a ≤ 1000000000000000) (hb : 1 ≤ b) (hb' : b ≤ 1000) :
    Calls Tryz.prog 59 #[.int .i64 a, .int .i64 b] w fun e w' => e = .returned (.int .i64 (rnd a b)) ∧ w = w' := by
  have hne : (2 * b == 0) = false := by simp; omega
  by_cases ha : a < 0
  · have hq0 : 0 ≤ (-2 * a + b) / (2 * b) := Int.ediv_nonneg (by omega) (by omega)
    have hq1 : (-2 * a + b) / (2 * b) ≤ -2 * a + b := Int.ediv_le_self _ (by omega)
    go_enter Tryz.func59, Tryz.ntmps59
    go_wp2_with fail
    go_ret
    exact ⟨ret_int (by unfold rnd; rw [if_pos ha, show 2 * (-a) + b = -2 * a + b from by omega]), rfl⟩
  · go_enter Tryz.func59, Tryz.ntmps59
    go_wp2_with fail
    go_ret
    exact ⟨ret_int (by unfold rnd; rw [if_neg (by omega)]), rfl⟩
theorem rwith_any (n b : Int) (w : World) (hb : 0 ≤ b) (hb' : b ≤ 9223372036854775807) :
    Calls Tryz.prog 32 #[.int .i64 n, .int .i64 b] w fun e w' => e = .returned (.bool (decide (-b ≤ n ∧ n ≤ b))) ∧ w = w' := by
  by_cases h1 : -b ≤ n
  · by_cases h2 : n ≤ b
    · go_enter Tryz.func32, Tryz.ntmps32
      go_wp2
      go_ret
      exact ⟨ret_bool (by simp [h1, h2]), rfl⟩
    · go_enter Tryz.func32, Tryz.ntmps32
      go_wp2
      go_ret
      exact ⟨ret_bool (by simp [h2]), rfl⟩
  · go_enter Tryz.func32, Tryz.ntmps32
    go_wp2
    go_ret
    exact ⟨ret_bool (by symm; simp; omega), rfl⟩
theorem mul_bd3 {m k y : Int} (h0 : 0 ≤ k) (h1 : k ≤ m) (hm : m ≤ 39) (hy : -100000 ≤ y ∧ y ≤ 100000) : -3900000 ≤ k * y ∧ k * y ≤ 3900000 := by
  have := mul_bd (x := k) (y := y) (B := 100000) h0 (by omega) hy.1 hy.2
  omega
def RetEd' (w : World) (nm : ByteArray) (l : List Spot) (e : Ending) (w' : World) : Prop := ∃ v, e = .returned (.agg #[.string nm, v]) ∧ OwnT 57 w' w.heap.size v l ∧ Ext w w'
set_option maxRecDepth 100000 in
set_option maxHeartbeats 3200000 in
theorem rgraded1_any (nm : ByteArray) (A : Option Addr) (m c : Nat) (l : List Spot) (a b : Spot) (w : World) (hA : SpotsAt w A l) (hl : l.length = m + 1) (hm : 1 ≤ m) (hm' : m ≤ 39)
    (ha : -100000 ≤ a.1 ∧ a.1 ≤ 100000 ∧ -100000 ≤ a.2 ∧ a.2 ≤ 100000) (hb : -100000 ≤ b.1 ∧ b.1 ≤ 100000 ∧ -100000 ≤ b.2 ∧ b.2 ≤ 100000) :
    Calls Tryz.prog 34 #[.agg #[.string nm, .slice A (m + 1) c], SV a, SV b] w (RetEd' w nm (movedS l a b)) := by
  obtain ⟨a1, a2⟩ := a
  obtain ⟨b1, b2⟩ := b
  obtain ⟨ha1, ha1', ha2, ha2'⟩ := ha
  obtain ⟨hb1, hb1', hb2, hb2'⟩ := hb
  simp only at ha1 ha1' ha2 ha2' hb1 hb1' hb2 hb2'
  have HA := Lib.hid hA; have HL := Lib.hid hl; clear hA hl
  obtain ⟨i0, hi0, hz0, hz1, hz2⟩ := info_parts spot_info
  go_enter Tryz.func34, Tryz.ntmps34
  go_wp2_with fail
  refine wp_at fun W0 hW0 => ?_
  have hX : Blk 67 W0 w.heap.size [.string nm, .slice A (m + 1) c] := by rw [hW0]; exact ((((Blk.new' rfl).ext ((Ext.refl _).alloc _)).ext ((Ext.refl _).alloc _)).ext ((Ext.refl _).alloc _)).ext ((Ext.refl _).alloc _)
  have hPA : Blk 57 W0 (w.heap.size + 1) [.int .i64 a1, .int .i64 a2] := by rw [hW0]; exact (((Blk.new' (by simp)).ext ((Ext.refl _).alloc _)).ext ((Ext.refl _).alloc _)).ext ((Ext.refl _).alloc _)
  have hPB : Blk 57 W0 (w.heap.size + 1 + 1) [.int .i64 b1, .int .i64 b2] := by rw [hW0]; exact ((Blk.new' (by simp)).ext ((Ext.refl _).alloc _)).ext ((Ext.refl _).alloc _)
  have hR : Blk 67 W0 (w.heap.size + 1 + 1 + 1) [.string ⟨#[]⟩, .slice none 0 0] := by rw [hW0]; exact (Blk.new' (by simp)).ext ((Ext.refl _).alloc _)
  have hQ : Blk 67 W0 (w.heap.size + 1 + 1 + 1 + 1) [.string nm, .slice none 0 0] := by rw [hW0]; exact Blk.new' (by simp)
  have hx0 : Ext w W0 := by rw [hW0]; exact (((((Ext.refl _).alloc _).alloc _).alloc _).alloc _).alloc _
  have hsz : W0.heap.size = w.heap.size + 5 := by rw [hW0]; simp
  have HX := Lib.hid hX; have HPA := Lib.hid hPA; have HPB := Lib.hid hPB; have HR := Lib.hid hR; have HQ0 := Lib.hid hQ; have HX0 := Lib.hid hx0; have HSZ := Lib.hid hsz
  clear hW0 hX hPA hPB hR hQ hx0 hsz
  obtain ⟨ob, hob⟩ : ∃ ob, ob = w.heap.size + 1 + 1 + 1 + 1 := ⟨_, rfl⟩
  rw [← hob] at HQ0 ⊢
  have hobl : w.heap.size + 4 = ob := by omega
  have HOB := Lib.hid hobl; clear hob hobl
  have HKX : Hid (∀ wr, Kept (fun k => k = ob) W0 wr → Ext w wr) := fun wr h => h.ext HX0.out (fun k hk => by have := HOB.out; omega)
  go_loopw [9] (fun i wr => ∃ (k : Nat) (v : Value), k ≤ m + 1 ∧ i = .int .i64 k ∧ Blk 67 wr ob [.string nm, v] ∧ OwnT 57 wr W0.heap.size v ((movedS l (a1, a2) (b1, b2)).take k) ∧ Kept (fun k => k = ob) W0 wr) (fun i _ => m + 1 - (intOf i).toNat)
  case atStart => exact ⟨0, _, Nat.zero_le _, rfl, HQ0.out, World.ownsRow_nil _ _ _ _, Kept.refl _ _⟩
  case round =>
    obtain ⟨k, v, hk, rfl, hQ, hO, hK⟩ := hrel
    obtain ⟨VA, vc, hvf⟩ := OwnT.form2 hO
    subst hvf
    have HXw := Lib.hid (HKX.out _ hK)
    have HQ := Lib.hid hQ; have HO := Lib.hid hO; have HK := Lib.hid hK; clear hQ hO hK
    have hobv := HOB.out
    have HXr := Lib.hid (HK.out.blk HX.out (by omega)); have HAr := Lib.hid (HK.out.blk HPA.out (by omega)); have HBr := Lib.hid (HK.out.blk HPB.out (by omega)); have HRr := Lib.hid (HK.out.blk HR.out (by omega))
    clear hobv
    by_cases hlt : k ≤ m
    · obtain ⟨LK, hLK⟩ : ∃ LK, LK = (movedS l (a1, a2) (b1, b2)).take k := ⟨_, rfl⟩
      rw [← hLK] at HO HQ
      have hLKl : LK.length ≤ 1000 := by rw [hLK, List.length_take]; omega
      have HLK := Lib.hid hLK; clear hLK
      obtain ⟨t0, t1⟩ := blk2 HAr.out
      obtain ⟨t2, t3⟩ := blk2 HBr.out
      obtain ⟨X1, hX1⟩ : ∃ X1 : Int, X1 = ((m : Int) - k) * a1 + k * b1 := ⟨_, rfl⟩
      obtain ⟨X2, hX2⟩ : ∃ X2 : Int, X2 = ((m : Int) - k) * a2 + k * b2 := ⟨_, rfl⟩
      have p1 := mul_bd3 (m := m) (k := (m : Int) - k) (y := a1) (by omega) (by omega) (by omega) ⟨ha1, ha1'⟩
      have p2 := mul_bd3 (m := m) (k := k) (y := b1) (by omega) (by omega) (by omega) ⟨hb1, hb1'⟩
      have p3 := mul_bd3 (m := m) (k := (m : Int) - k) (y := a2) (by omega) (by omega) (by omega) ⟨ha2, ha2'⟩
      have p4 := mul_bd3 (m := m) (k := k) (y := b2) (by omega) (by omega) (by omega) ⟨hb2, hb2'⟩
      have hX1b : -1000000000000000 ≤ X1 ∧ X1 ≤ 1000000000000000 := by rw [hX1]; omega
      have hX2b : -1000000000000000 ≤ X2 ∧ X2 ≤ 1000000000000000 := by rw [hX2]; omega
      obtain ⟨D1, hD1⟩ : ∃ D1, D1 = rnd X1 m := ⟨_, rfl⟩
      obtain ⟨D2, hD2⟩ : ∃ D2, D2 = rnd X2 m := ⟨_, rfl⟩
      have HR1 : Hid (∀ W : World, Calls Tryz.prog 59 #[.int .i64 X1, .int .i64 (m : Int)] W fun e w' => e = .returned (.int .i64 D1) ∧ W = w') := fun W => by rw [hD1]; exact rround_any X1 m W hX1b.1 hX1b.2 (by omega) (by omega)
      have HR2 : Hid (∀ W : World, Calls Tryz.prog 59 #[.int .i64 X2, .int .i64 (m : Int)] W fun e w' => e = .returned (.int .i64 D2) ∧ W = w') := fun W => by rw [hD2]; exact rround_any X2 m W hX2b.1 hX2b.2 (by omega) (by omega)
      have HD1 : Hid (D1 = rnd (((m : Int) - k) * a1 + k * b1) m) := by show D1 = _; rw [hD1, hX1]
      have HD2 : Hid (D2 = rnd (((m : Int) - k) * a2 + k * b2) m) := by show D2 = _; rw [hD2, hX2]
      have e1 : IntKind.i64.wrap ((m : Int) - k) = (m : Int) - k := IntWalk.i64_in _ (by omega)
      have e2 : IntKind.i64.wrap (((m : Int) - k) * a1) = ((m : Int) - k) * a1 := IntWalk.i64_in _ (by omega)
      have e3 : IntKind.i64.wrap ((k : Int) * b1) = (k : Int) * b1 := IntWalk.i64_in _ (by omega)
      have e4 : IntKind.i64.wrap (((m : Int) - k) * a2) = ((m : Int) - k) * a2 := IntWalk.i64_in _ (by omega)
      have e5 : IntKind.i64.wrap ((k : Int) * b2) = (k : Int) * b2 := IntWalk.i64_in _ (by omega)
      have e6 : IntKind.i64.wrap (((m : Int) - k) * a1 + (k : Int) * b1) = X1 := by rw [hX1]; exact IntWalk.i64_in _ (by omega)
      have e7 : IntKind.i64.wrap (((m : Int) - k) * a2 + (k : Int) * b2) = X2 := by rw [hX2]; exact IntWalk.i64_in _ (by omega)
      clear hX1 hX2 p1 p2 p3 p4 hX1b hX2b hD1 hD2
      have hpl : w.heap.size + 1 + 1 < wr.heap.size := HBr.out.lt
      have hlt' : (k : Int) ≤ m := by omega
      go_upto_region 6 with fail
      go_cut [10] from 18 to 73 (fun p wc => ∃ db, p = .pointer (some ⟨db, 0, none⟩) ∧ Blk 57 wc db [.int .i64 D1, .int .i64 D2] ∧ Ext wr wc)
      case first =>
        have keep : ∀ W1 : World, Ext wr W1 → (Ext wr W1 ∧ W1.cell? ⟨w.heap.size + 1, 0, none⟩ = some (.int .i64 a1) ∧ W1.cell? ⟨w.heap.size + 1, 1, none⟩ = some (.int .i64 a2) ∧ W1.cell? ⟨w.heap.size + 1 + 1, 0, none⟩ = some (.int .i64 b1) ∧ W1.cell? ⟨w.heap.size + 1 + 1, 1, none⟩ = some (.int .i64 b2)) := fun W1 hx => ⟨hx, hx.cell t0, hx.cell t1, hx.cell t2, hx.cell t3⟩
        have KEEP := Lib.hid keep; clear keep t0 t1 t2 t3
        go_region_held3 (fun W => Ext wr W ∧ W.cell? ⟨w.heap.size + 1, 0, none⟩ = some (.int .i64 a1) ∧ W.cell? ⟨w.heap.size + 1, 1, none⟩ = some (.int .i64 a2) ∧ W.cell? ⟨w.heap.size + 1 + 1, 0, none⟩ = some (.int .i64 b1) ∧ W.cell? ⟨w.heap.size + 1 + 1, 1, none⟩ = some (.int .i64 b2))
          (first | (with_reducible assumption) | (with_reducible exact KEEP.out _ (Ext.drew (Ext.refl _))) | (with_reducible exact KEEP.out _ (Ext.drew (Ext.alloc (Ext.refl _) _))) | fail)
          (first
            | (go_at_call 59; (with_reducible refine (HR1.out _).mono ?_); rintro e wa ⟨rfl, rfl⟩)
            | (go_at_call 59; (with_reducible refine (HR2.out _).mono ?_); rintro e wa ⟨rfl, rfl⟩)
            | fail)
        all_goals
          go_wp2_with fail
          go_meet
        all_goals exact ⟨_, rfl, (Blk.new' rfl).ext ((Ext.refl _).drew), ((Ext.refl _).alloc _).drew⟩
      case rest =>
        obtain ⟨db, hdb, hBd, hxc⟩ := hcut
        subst hdb
        clear t0 t1 t2 t3 e1 e2 e3 e4 e5 e6 e7 hpl HR1 HR2
        have HBD := Lib.hid hBd; have HXC := Lib.hid hxc; clear hBd hxc
        obtain ⟨wz, rfl⟩ : ∃ wz : World, wz = wc := ⟨_, rfl⟩
        have hkl : k < l.length := by rw [HL.out]; omega
        obtain ⟨b, off, hA, c0, c1⟩ := (HA.out.ext (HXw.out.trans HXC.out)).g hkl
        subst hA
        obtain ⟨_, x1⟩ := blk2 (HXr.out.ext HXC.out)
        obtain ⟨d0, d1⟩ := blk2 HBD.out
        have HQz := Lib.hid (HQ.out.ext HXC.out)
        obtain ⟨_, q1⟩ := blk2 HQz.out
        have fq1 := HQz.out.frozen 1
        have HKz := Lib.hid (HK.out.trans (HXC.out.kept _))
        have HOz := Lib.hid (own_ext HO.out HXC.out)
        have hxl : w.heap.size < wz.heap.size := cell_lt x1
        have hdl : db < wz.heap.size := HBD.out.lt
        have hbl : b < wz.heap.size := cell_lt c0
        have hol : ob < wz.heap.size := HQz.out.lt
        have hcl : W0.heap.size ≤ wz.heap.size := HKz.out.size
        have H63 : Hid (LK.length + 1 ≤ maxLen) := by show _ ≤ _; unfold maxLen; omega
        have H64 : Hid ((LK.length + 1) * 16 ≤ 140737488355328) := by show _ ≤ _; omega
        obtain ⟨Y1, hY1⟩ : ∃ Y1, IntKind.i64.wrap ((gS l k).1 + D1) = Y1 := ⟨_, rfl⟩
        obtain ⟨Y2, hY2⟩ : ∃ Y2, IntKind.i64.wrap ((gS l k).2 + D2) = Y2 := ⟨_, rfl⟩
        have HY : Hid (gS (movedS l (a1, a2) (b1, b2)) k = (Y1, Y2)) := by
          show gS _ _ = _
          rw [movedS_g hkl, ← hY1, ← hY2, HD1.out, HD2.out, IntWalk.i64_left, IntWalk.i64_left]
          unfold mvS mvx
          rw [HL.out]
          simp
        have hk1 : (k : Int) < (m : Int) + 1 := by omega
        have CH : Hid (Ext wz (wz.alloc (.cells #[.int .i64 Y1, .int .i64 Y2] 57)).drew) := Ext.drew (Ext.alloc (Ext.refl wz) _)
        have HNE : Hid (Value.ownBlock (.slice VA LK.length vc) ≠ some ob) := own_blk_ne HOz.out HQz.out (by decide)
        go_wp2_with fail
        have HCC : Hid (Ext wz wz.drew) := Ext.drew (Ext.refl _)
        have z0 : ∀ z : World, Ext wz z → z.cell? ⟨ob, 1, none⟩ = some (.slice VA LK.length vc) := fun z h => h.cell q1
        have z1 : ∀ z : World, Ext wz z → z.cell? ⟨w.heap.size, 1, none⟩ = some (.slice (some ⟨b, off, none⟩) (m + 1) c) := fun z h => h.cell x1
        have z2 : ∀ z : World, Ext wz z → z.cell? ⟨b, off + k * 2, none⟩ = some (.int .i64 (gS l k).1) := fun z h => h.cell c0
        have z3 : ∀ z : World, Ext wz z → z.cell? ⟨b, off + k * 2 + 1, none⟩ = some (.int .i64 (gS l k).2) := fun z h => h.cell c1
        have z4 : ∀ z : World, Ext wz z → z.cell? ⟨db, 0, none⟩ = some (.int .i64 D1) := fun z h => h.cell d0
        have z5 : ∀ z : World, Ext wz z → z.cell? ⟨db, 1, none⟩ = some (.int .i64 D2) := fun z h => h.cell d1
        refine region_U' (n := 25) 22 (fun z => Ext wz z) (by kernel_rfl) (by kernel_rfl) ?_
        refine U_take0 (i := 0) (v := ?_) rfl (by kernel_rfl) (fun _ _ _ h => h) (Or.inl ⟨by rfl, ?_⟩) HCC.out ?_
        rotate_left
        · (intro zz hzz; (try dsimp only at hzz); go_simp; try with_reducible rfl)
        ((try simp only [Act.put]); (try simp only [List.setIfInBounds_toArray]); (try simp only [List.set_cons_succ]); (try simp only [List.set_cons_zero]))
        refine U_take (i := 1) (k := 1) (r := []) (v := ?_) rfl (by kernel_rfl) (fun _ _ _ h => h) (Or.inl ⟨by rfl, ?_⟩) HCC.out ?_
        rotate_left
        · (intro zz hzz; (try dsimp only at hzz); go_simp; try with_reducible rfl)
        ((try simp only [Act.put]); (try simp only [List.setIfInBounds_toArray]); (try simp only [List.set_cons_succ]); (try simp only [List.set_cons_zero]))
        refine U_take0 (i := 2) (v := ?_) rfl (by kernel_rfl) (fun _ _ _ h => h) (Or.inl ⟨by rfl, ?_⟩) HCC.out ?_
        rotate_left
        · (intro zz hzz; (try dsimp only at hzz); go_simp; try with_reducible rfl)
        ((try simp only [Act.put]); (try simp only [List.setIfInBounds_toArray]); (try simp only [List.set_cons_succ]); (try simp only [List.set_cons_zero]))
        refine U_take (i := 3) (k := 21) (r := [20, 10, 7, 6, 5, 3]) (v := ?_) rfl (by kernel_rfl) (fun _ _ _ h => h) (Or.inl ⟨by rfl, ?_⟩) HCC.out ?_
        rotate_left
        · (intro zz hzz; (try dsimp only at hzz); go_simp; try with_reducible rfl)
        ((try simp only [Act.put]); (try simp only [List.setIfInBounds_toArray]); (try simp only [List.set_cons_succ]); (try simp only [List.set_cons_zero]))
        refine U_take0 (i := 4) (v := ?_) rfl (by kernel_rfl) (fun _ _ _ h => h) (Or.inl ⟨by rfl, ?_⟩) HCC.out ?_
        rotate_left
        · (intro zz hzz; (try dsimp only at hzz); go_simp; try with_reducible rfl)
        ((try simp only [Act.put]); (try simp only [List.setIfInBounds_toArray]); (try simp only [List.set_cons_succ]); (try simp only [List.set_cons_zero]))
        refine U_take0 (i := 5) (v := ?_) rfl (by kernel_rfl) (fun _ _ _ h => h) (Or.inl ⟨by rfl, ?_⟩) HCC.out ?_
        rotate_left
        · (intro zz hzz; (try dsimp only at hzz); go_simp; try with_reducible rfl)
        ((try simp only [Act.put]); (try simp only [List.setIfInBounds_toArray]); (try simp only [List.set_cons_succ]); (try simp only [List.set_cons_zero]))
        refine U_take0 (i := 6) (v := ?_) rfl (by kernel_rfl) (fun _ _ _ h => h) (Or.inl ⟨by rfl, ?_⟩) HCC.out ?_
        rotate_left
        · (intro zz hzz; (try dsimp only at hzz); go_simp; try with_reducible rfl)
        ((try simp only [Act.put]); (try simp only [List.setIfInBounds_toArray]); (try simp only [List.set_cons_succ]); (try simp only [List.set_cons_zero]))
        refine U_take (i := 7) (k := 21) (r := [20, 10, 7]) (v := ?_) rfl (by kernel_rfl) (fun _ _ _ h => h) (Or.inl ⟨by rfl, ?_⟩) HCC.out ?_
        rotate_left
        · (intro zz hzz; (try dsimp only at hzz); go_simp; try with_reducible rfl)
        ((try simp only [Act.put]); (try simp only [List.setIfInBounds_toArray]); (try simp only [List.set_cons_succ]); (try simp only [List.set_cons_zero]))
        refine U_take0 (i := 8) (v := ?_) rfl (by kernel_rfl) (fun _ _ _ h => h) (Or.inl ⟨by rfl, ?_⟩) HCC.out ?_
        rotate_left
        · (intro zz hzz; (try dsimp only at hzz); go_simp; try with_reducible rfl)
        ((try simp only [Act.put]); (try simp only [List.setIfInBounds_toArray]); (try simp only [List.set_cons_succ]); (try simp only [List.set_cons_zero]))
        refine U_take (i := 9) (k := 21) (r := [20, 10, 9]) (v := ?_) rfl (by kernel_rfl) (fun _ _ _ h => h) (Or.inl ⟨by rfl, ?_⟩) HCC.out ?_
        rotate_left
        · (intro zz hzz; (try dsimp only at hzz); go_simp; try with_reducible rfl)
        ((try simp only [Act.put]); (try simp only [List.setIfInBounds_toArray]); (try simp only [List.set_cons_succ]); (try simp only [List.set_cons_zero]))
        refine U_take0 (i := 10) (v := ?_) rfl (by kernel_rfl) (fun _ _ _ h => h) (Or.inl ⟨by rfl, ?_⟩) HCC.out ?_
        rotate_left
        · (intro zz hzz; (try dsimp only at hzz); go_simp; try with_reducible rfl)
        ((try simp only [Act.put]); (try simp only [List.setIfInBounds_toArray]); (try simp only [List.set_cons_succ]); (try simp only [List.set_cons_zero]))
        refine U_take0 (i := 11) (v := ?_) rfl (by kernel_rfl) (fun _ _ _ h => h) (Or.inl ⟨by rfl, ?_⟩) HCC.out ?_
        rotate_left
        · (intro zz hzz; (try dsimp only at hzz); go_simp; try with_reducible rfl)
        ((try simp only [Act.put]); (try simp only [List.setIfInBounds_toArray]); (try simp only [List.set_cons_succ]); (try simp only [List.set_cons_zero]))
        refine U_take (i := 12) (k := 21) (r := [20, 19, 16, 15, 14, 12]) (v := ?_) rfl (by kernel_rfl) (fun _ _ _ h => h) (Or.inl ⟨by rfl, ?_⟩) HCC.out ?_
        rotate_left
        · (intro zz hzz; (try dsimp only at hzz); go_simp; try with_reducible rfl)
        ((try simp only [Act.put]); (try simp only [List.setIfInBounds_toArray]); (try simp only [List.set_cons_succ]); (try simp only [List.set_cons_zero]))
        refine U_take0 (i := 13) (v := ?_) rfl (by kernel_rfl) (fun _ _ _ h => h) (Or.inl ⟨by rfl, ?_⟩) HCC.out ?_
        rotate_left
        · (intro zz hzz; (try dsimp only at hzz); go_simp; try with_reducible rfl)
        ((try simp only [Act.put]); (try simp only [List.setIfInBounds_toArray]); (try simp only [List.set_cons_succ]); (try simp only [List.set_cons_zero]))
        refine U_take0 (i := 14) (v := ?_) rfl (by kernel_rfl) (fun _ _ _ h => h) (Or.inl ⟨by rfl, ?_⟩) HCC.out ?_
        rotate_left
        · (intro zz hzz; (try dsimp only at hzz); go_simp; try with_reducible rfl)
        ((try simp only [Act.put]); (try simp only [List.setIfInBounds_toArray]); (try simp only [List.set_cons_succ]); (try simp only [List.set_cons_zero]))
        refine U_take0 (i := 15) (v := ?_) rfl (by kernel_rfl) (fun _ _ _ h => h) (Or.inl ⟨by rfl, ?_⟩) HCC.out ?_
        rotate_left
        · (intro zz hzz; (try dsimp only at hzz); go_simp; try with_reducible rfl)
        ((try simp only [Act.put]); (try simp only [List.setIfInBounds_toArray]); (try simp only [List.set_cons_succ]); (try simp only [List.set_cons_zero]))
        refine U_take (i := 16) (k := 21) (r := [20, 19, 16]) (v := ?_) rfl (by kernel_rfl) (fun _ _ _ h => h) (Or.inl ⟨by rfl, ?_⟩) HCC.out ?_
        rotate_left
        · (intro zz hzz; (try dsimp only at hzz); go_simp; try with_reducible rfl)
        ((try simp only [Act.put]); (try simp only [List.setIfInBounds_toArray]); (try simp only [List.set_cons_succ]); (try simp only [List.set_cons_zero]))
        refine U_take0 (i := 17) (v := ?_) rfl (by kernel_rfl) (fun _ _ _ h => h) (Or.inl ⟨by rfl, ?_⟩) HCC.out ?_
        rotate_left
        · (intro zz hzz; (try dsimp only at hzz); go_simp; try with_reducible rfl)
        ((try simp only [Act.put]); (try simp only [List.setIfInBounds_toArray]); (try simp only [List.set_cons_succ]); (try simp only [List.set_cons_zero]))
        refine U_take (i := 18) (k := 21) (r := [20, 19, 18]) (v := ?_) rfl (by kernel_rfl) (fun _ _ _ h => h) (Or.inl ⟨by rfl, ?_⟩) HCC.out ?_
        rotate_left
        · (intro zz hzz; (try dsimp only at hzz); go_simp; try with_reducible rfl)
        ((try simp only [Act.put]); (try simp only [List.setIfInBounds_toArray]); (try simp only [List.set_cons_succ]); (try simp only [List.set_cons_zero]))
        refine U_take0 (i := 19) (v := ?_) rfl (by kernel_rfl) (fun _ _ _ h => h) (Or.inl ⟨by rfl, ?_⟩) HCC.out ?_
        rotate_left
        · (intro zz hzz; (try dsimp only at hzz); go_simp; try with_reducible rfl)
        ((try simp only [Act.put]); (try simp only [List.setIfInBounds_toArray]); (try simp only [List.set_cons_succ]); (try simp only [List.set_cons_zero]))
        refine U_take0 (i := 20) (v := ?_) rfl (by kernel_rfl) (fun _ _ _ h => h) (Or.inl ⟨by rfl, ?_⟩) HCC.out ?_
        rotate_left
        · (intro zz hzz; (try dsimp only at hzz); go_simp; try with_reducible rfl)
        ((try simp only [Act.put]); (try simp only [List.setIfInBounds_toArray]); (try simp only [List.set_cons_succ]); (try simp only [List.set_cons_zero]))
        refine U_one (i := 21) rfl (by kernel_rfl) ?_
        intro K hK
        go_simp
        refine hK _ _ (fun _ => CH.out) ?_
        clear hK K
        ((try simp only [Act.put]); (try simp only [List.setIfInBounds_toArray]); (try simp only [List.set_cons_succ]); (try simp only [List.set_cons_zero]))
        refine U_one (i := 22) rfl (by kernel_rfl) ?_
        intro K hK
        refine step_append_lies _ (by rfl) (.tmp 51) (.tmp 71) 24 (by rfl) W0.heap.size 57 i0 (.agg #[.int .i64 0, .int .i64 0]) 2 16 Tryz.underlying24 hi0 hz0 hz1 hz2 rfl (by decide) (.slice VA LK.length vc) LK.length (scells LK) (by rfl)
               (own_ext HOz.out CH.out) ⟨wz.heap.size, 0, none⟩ 1 1 [.int .i64 Y1, .int .i64 Y2] (by rfl) (by rfl)
               (World.news_of_block (cs := #[.int .i64 Y1, .int .i64 Y2]) (t := 57) (fr := (0, 0)) (heap_alloc_new wz _)) (by simp [Value.oneCell']) (by decide) H63.out H64.out
               (Nat.le_trans hcl (Ext.size CH.out)) (wz.heap.size + 1) (by simp) ?_
        intro gg cap wn hown1 hgrow hat hltn
        have HQn := Lib.hid ((hgrow.block _ (HQz.out.ext CH.out).lt (Ne.symm HNE.out)).trans (HQz.out.ext CH.out))
        have y1 := Blk.cell HQn.out 1
        have yf := Blk.frozen HQn.out 1
        simp only [List.getElem?_cons_succ, List.getElem?_cons_zero] at y1
        refine hK _ _ (fun h => absurd (h.symm.trans (by kernel_rfl)) Bool.false_ne_true) ?_
        clear hK K
        ((try simp only [Act.put]); (try simp only [List.setIfInBounds_toArray]); (try simp only [List.set_cons_succ]); (try simp only [List.set_cons_zero]))
        refine U_one (i := 23) rfl (by kernel_rfl) ?_
        intro K hK
        go_simp
        refine hK _ _ (fun h => absurd (h.symm.trans (by kernel_rfl)) Bool.false_ne_true) ?_
        clear hK K
        ((try simp only [Act.put]); (try simp only [List.setIfInBounds_toArray]); (try simp only [List.set_cons_succ]); (try simp only [List.set_cons_zero]))
        refine U_one (i := 24) rfl (by kernel_rfl) ?_
        intro K hK
        go_simp
        refine hK _ _ (fun h => absurd (h.symm.trans (by kernel_rfl)) Bool.false_ne_true) ?_
        clear hK K
        refine U_done (by kernel_rfl) ?_
        have HFIN := Lib.hid (field_fin (wc := W0) (j := 1) (by decide) (HQz.out.ext CH.out) ⟨_, _, _, own_ext HOz.out CH.out⟩ hgrow hown1 (HKz.out.trans (CH.out.kept _)))
        clear hown1 hgrow hat hltn y1 yf hY1 hY2 z0 z1 z2 z3 z4 z5
        go_wp2_with fail
        refine ⟨⟨k + 1, .slice (some ⟨gg, 0, none⟩) (LK.length + 1) cap, by omega, by go_num, HFIN.out.1, ?_, HFIN.out.2.2⟩, by simp [intOf]; omega⟩
        rw [gS_take_succ (by rw [movedS_len]; exact hkl), HY.out, ← HLK.out]
        unfold OwnT
        rw [List.length_append, scells_append]
        exact HFIN.out.2.1
    · obtain rfl : k = m + 1 := by omega
      have hT : (movedS l (a1, a2) (b1, b2)).take (m + 1) = movedS l (a1, a2) (b1, b2) := List.take_of_length_le (by rw [movedS_len, HL.out]; omega)
      have hLn : (movedS l (a1, a2) (b1, b2)).length = m + 1 := by rw [movedS_len, HL.out]
      have hO1 := HO.out
      have hQ1 := HQ.out
      rw [hT, hLn] at hQ1 hO1
      have HO1 := Lib.hid hO1; have HQ1 := Lib.hid hQ1; clear hO1 hQ1 hT hLn HO HQ
      obtain ⟨q0, q1⟩ := blk2 HQ1.out
      obtain ⟨r0, r1⟩ := blk2 HRr.out
      have e0 := HRr.out.frozen 0
      have e1 := HRr.out.frozen 1
      have hlt' : ¬ ((m : Int) + 1) ≤ m := by omega
      go_wp2_with fail
      refine bodyPost_ret (v := .agg #[.string nm, .slice VA (m + 1) vc]) (by simp [results, Tryz.results34, go_sem, r0, r1]) rfl ⟨_, rfl, ?_, ?_⟩
      · exact own_base_le (own_set (own_set HO1.out (own_blk_ne HO1.out HRr.out (by decide)) _) (own_blk_ne HO1.out HRr.out (by decide)) _) HX0.out.size
      · exact (HXw.out.setCell (by simp; omega) _).setCell (by simp; omega) _
end Go.Proofs.YtliijigdbpmpaaaGreat
namespace Go.Proofs.YtliijigdbpmpaaaGreat
open Go.RowKit
set_option maxRecDepth 100000 in
set_option maxHeartbeats 3200000 in
theorem rgraded_any (nm : ByteArray) (AE AN AC AW : Option Addr) (nE cE nN cN nC cC nW cW : Nat) (gr m : Int) (mt : Bool) (es : List Edge) (cs : List Spot) (w : World)
    (hE : EdgesAt w AE es) (hlE : es.length = nE) (hC : SpotsAt w AC cs) (hlC : cs.length = nC) (hnE : nE ≤ 1000) (hnC : nC ≤ 1000) :
    Calls Tryz.prog 20 #[.agg #[.string nm, .slice AE nE cE, .int .i64 gr, .slice AN nN cN, .slice AC nC cC, .slice AW nW cW, .bool mt], .int .i64 m] w (RetG w es cs m) := by
  have HLE := Lib.hid hlE; clear hlE
  have HLC := Lib.hid hlC; clear hlC
  have HE := Lib.hid hE; clear hE
  have HC := Lib.hid hC; clear hC
  cases hmb : decide (-100 ≤ m ∧ m ≤ 100)
  · have HR : Hid (gradedR es cs m = 3) := by show gradedR es cs m = 3; unfold gradedR; rw [if_pos hmb]
    go_enter Tryz.func20, Tryz.ntmps20
    go_wp2_with fail
    refine (rwith_any m 100 _ (by omega) (by omega)).mono ?_
    rintro e w1 ⟨rfl, rfl⟩
    rw [hmb]
    go_wp2_with fail
    go_ret2
    exact retG_bad HR.out (by decide) ((Ext.refl _).alloc _)
  have HM := Lib.hid hmb
  by_cases hnn : nC = nE
  rotate_left
  · have HR : Hid (gradedR es cs m = 1) := by show gradedR es cs m = 1; unfold gradedR; rw [if_neg (by rw [hmb]; decide), if_pos (by rw [HLE.out, HLC.out]; exact hnn)]
    have hnb : ((nC : Int) != nE) = true := by simp; omega
    go_enter Tryz.func20, Tryz.ntmps20
    go_wp2_with fail
    refine (rwith_any m 100 _ (by omega) (by omega)).mono ?_
    rintro e w1 ⟨rfl, rfl⟩
    rw [hmb]
    go_wp2_with fail
    go_ret2
    exact retG_bad HR.out (by decide) ((Ext.refl _).alloc _)
  subst hnn
  go_enter Tryz.func20, Tryz.ntmps20
  go_wp2_with fail
  refine (rwith_any m 100 _ (by omega) (by omega)).mono ?_
  rintro e w1 ⟨rfl, rfl⟩
  rw [hmb]
  clear hmb
  go_wp2_with fail
  refine wp_at fun W0 hW0 => ?_
  have hP : Blk 27 W0 w.heap.size [.string nm, .slice AE nC cE, .int .i64 gr, .slice AN nN cN, .slice AC nC cC, .slice AW nW cW, .bool mt] := by rw [hW0]; exact Blk.new' rfl
  have hx0 : Ext w W0 := by rw [hW0]; exact (Ext.refl _).alloc _
  have HP := Lib.hid hP; have HX0 := Lib.hid hx0; clear hW0 hP hx0
  go_loop [7] (fun i => ∃ k : Nat, k ≤ nC ∧ i = .int .i64 k ∧ allB (cornF cs) k = true) (fun i => nC - (intOf i).toNat)
  case atStart => exact ⟨0, Nat.zero_le _, rfl, rfl⟩
  case round =>
    obtain ⟨k, hk, rfl, ht⟩ := hrel
    have HT := Lib.hid ht; clear ht
    obtain ⟨_, p1, _, _, p4, _, _⟩ := blk7 HP.out
    by_cases hlt : k < nC
    · have hkl : k < cs.length := by rw [HLC.out]; exact hlt
      obtain ⟨b, off, hA, hc0, hc1⟩ := (HC.out.ext HX0.out).g hkl
      subst hA
      have hR : cornF cs k = false → gradedR es cs m = 3 := fun hf => by
        unfold gradedR
        rw [if_neg (by rw [HM.out]; decide), if_neg (by rw [HLE.out, HLC.out]; simp), if_pos]
        exact allB_false hkl hf
      have HR := Lib.hid hR; clear hR
      go_wp2_with fail
      refine (rwith_any _ 1000 _ (by omega) (by omega)).mono ?_
      rintro e w1 ⟨rfl, rfl⟩
      cases hp : decide (-1000 ≤ (gS cs k).1 ∧ (gS cs k).1 ≤ 1000)
      · have HQ := Lib.hid hp; clear hp
        go_wp2_with fail
        go_ret2
        exact retG_bad (HR.out (by unfold cornF; rw [HQ.out]; rfl)) (by decide) HX0.out
      have HQ1 := Lib.hid hp; clear hp
      go_wp2_with fail
      refine (rwith_any _ 1000 _ (by omega) (by omega)).mono ?_
      rintro e w1 ⟨rfl, rfl⟩
      cases hp : decide (-1000 ≤ (gS cs k).2 ∧ (gS cs k).2 ≤ 1000)
      · have HQ := Lib.hid hp; clear hp
        go_wp2_with fail
        go_ret2
        exact retG_bad (HR.out (by unfold cornF; rw [HQ1.out, HQ.out]; rfl)) (by decide) HX0.out
      have HQ := Lib.hid hp; clear hp
      go_wp2_with fail
      go_round
      case rel => exact ⟨k + 1, by omega, by go_num, allB_succ HT.out (by unfold cornF; rw [HQ1.out, HQ.out]; rfl)⟩
      case measure => simp [intOf]; omega
    · obtain rfl : k = nC := by omega
      clear hlt hk
      go_wp2_with fail
      refine (rocheck_any AE k cE es _ (HE.out.ext HX0.out) HLE.out).mono ?_
      rintro e w1 ⟨rfl, he1⟩
      have HX1 := Lib.hid he1; clear he1
      by_cases hz : ocheck es = 0
      rotate_left
      · have hzb : (ocheck es != 0) = true := by simp [hz]
        have HZ := Lib.hid hz; clear hz
        have HR : Hid (gradedR es cs m = ocheck es) := by
          show gradedR es cs m = _
          unfold gradedR
          rw [if_neg (by rw [HM.out]; decide), if_neg (by rw [HLE.out, HLC.out]; simp), if_neg (by rw [HLC.out, HT.out]; decide), if_pos HZ.out]
        go_wp2_with fail
        go_ret2
        exact retG_bad HR.out HZ.out (HX0.out.trans HX1.out)
      have hzb : (ocheck es != 0) = false := by rw [hz]; rfl
      have HZ := Lib.hid hz; clear hz
      obtain ⟨ho1, ho2, ho3⟩ := ocheck_ok HZ.out
      rw [HLE.out] at ho1 ho2
      have HO3 := Lib.hid ho3; clear ho3
      have hmB : -100 ≤ m ∧ m ≤ 100 := of_decide_eq_true HM.out
      have HMB := Lib.hid hmB; clear hmB
      obtain ⟨e0, he0', hy0, hy1, hy2⟩ := info_parts edge_info
      go_wp2_with fail
      clear p1 p4
      go_loopw [9, 10] (fun v i wr => ∃ j : Nat, j ≤ k ∧ i = .int .i64 j ∧ OwnE wr W0.heap.size v ((gradedE es cs m).take j) ∧ Ext W0 wr) (fun _ i _ => k - (intOf i).toNat)
      case atStart => exact ⟨0, Nat.zero_le _, rfl, OwnE.nil _ _, HX1.out⟩
      case round =>
        obtain ⟨j, hj, rfl, ho, hx⟩ := hrel
        have HO := Lib.hid ho; have HX := Lib.hid hx; clear ho hx
        by_cases hlt : j < k
        · have hm1 : (j + 1) % k < k := Nat.mod_lt _ (by omega)
          obtain ⟨b, off, hA, c0, c1⟩ := (HC.out.ext (HX0.out.trans HX.out)).g (k := j) (by rw [HLC.out]; exact hlt)
          subst hA
          obtain ⟨d0, d1⟩ := (HC.out.ext (HX0.out.trans HX.out)).at1 (k := (j + 1) % k) (by rw [HLC.out]; exact hm1)
          obtain ⟨_, p1, _, _, p4, _, _⟩ := blk7 (HP.out.ext HX.out)
          obtain ⟨A0, hA0⟩ : ∃ A0, A0 = gS cs j := ⟨_, rfl⟩
          obtain ⟨B0, hB0⟩ : ∃ B0, B0 = gS cs ((j + 1) % k) := ⟨_, rfl⟩
          rw [← hA0] at c0 c1
          rw [← hB0] at d0 d1
          have HA0 := Lib.hid hA0; have HB0 := Lib.hid hB0; clear hA0 hB0
          have hw1 : IntKind.i64.wrap ((j : Int) + 1) = (j : Int) + 1 := IntWalk.i64_in _ (by omega)
          have hnN : ¬ k = 0 := by omega
          have hnp : 0 < k := by omega
          obtain ⟨hq0, hq1, hq2⟩ := mod_idx j k 1 1 rfl (by omega)
          have hj3 : ((j : Int) + 1).tmod k = (((j + 1) % k : Nat) : Int) := by rw [Int.tmod_eq_emod_of_nonneg (by omega)]; omega
          go_upto_region 18 with fail
          go_cut [11, 12] from 54 to 98 (fun pa pb wc => ∃ ab bb, pa = .pointer (some ⟨ab, 0, none⟩) ∧ pb = .pointer (some ⟨bb, 0, none⟩) ∧ Blk 57 wc ab [.int .i64 A0.1, .int .i64 A0.2] ∧ Blk 57 wc bb [.int .i64 B0.1, .int .i64 B0.2] ∧ Ext wr wc ∧ wr.heap.size ≤ ab ∧ wr.heap.size ≤ bb)
          case first =>
            have keep : ∀ W1 : World, Ext wr W1 → (Ext wr W1 ∧ W1.cell? ⟨w.heap.size, 4, none⟩ = some (.slice (some ⟨b, off, none⟩) k cC) ∧ W1.cell? ⟨b, off + j * 2, none⟩ = some (.int .i64 A0.1) ∧ W1.cell? ⟨b, off + j * 2 + 1, none⟩ = some (.int .i64 A0.2) ∧ W1.cell? ⟨b, off + (j + 1) % k * 2, none⟩ = some (.int .i64 B0.1) ∧ W1.cell? ⟨b, off + (j + 1) % k * 2 + 1, none⟩ = some (.int .i64 B0.2)) := fun W1 hx => ⟨hx, hx.cell p4, hx.cell c0, hx.cell c1, hx.cell d0, hx.cell d1⟩
            have KEEP := Lib.hid keep; clear keep c0 c1 d0 d1 p1 p4
            go_region_held3 (fun W => Ext wr W ∧ W.cell? ⟨w.heap.size, 4, none⟩ = some (.slice (some ⟨b, off, none⟩) k cC) ∧ W.cell? ⟨b, off + j * 2, none⟩ = some (.int .i64 A0.1) ∧ W.cell? ⟨b, off + j * 2 + 1, none⟩ = some (.int .i64 A0.2) ∧ W.cell? ⟨b, off + (j + 1) % k * 2, none⟩ = some (.int .i64 B0.1) ∧ W.cell? ⟨b, off + (j + 1) % k * 2 + 1, none⟩ = some (.int .i64 B0.2))
              (first | assumption | exact KEEP.out _ (by repeat (first | exact Ext.refl _ | apply Ext.alloc | apply Ext.drew)) | fail)
              (first | fail)
            all_goals
              go_wp2_with fail
              go_meet
            all_goals
              refine ⟨_, _, rfl, rfl, ?_, ?_, ?_, ?_, ?_⟩
              · first
                  | exact ((Blk.new' rfl).ext ((Ext.refl _).alloc _)).ext ((Ext.refl _).drew)
                  | exact (Blk.new' (by simp)).ext ((Ext.refl _).drew)
                  | fail
              · first
                  | exact ((Blk.new' rfl).ext ((Ext.refl _).alloc _)).ext ((Ext.refl _).drew)
                  | exact (Blk.new' (by simp)).ext ((Ext.refl _).drew)
                  | fail
              · exact (((Ext.refl _).alloc _).alloc _).drew
              · simp
              · simp
          case rest =>
            obtain ⟨ab, bb, hpa, hpb, hBa, hBb, hxc, hga, hgb⟩ := hcut
            subst hpa hpb
            clear c0 c1 d0 d1 p1 p4 hw1 hj3 hq0 hq1 hq2
            have HBA := Lib.hid hBa; have HBB := Lib.hid hBb; have HXC := Lib.hid hxc; clear hBa hBb hxc
            obtain ⟨wz, rfl⟩ : ∃ wz : World, wz = wc := ⟨_, rfl⟩
            have HXz := Lib.hid (HX.out.trans HXC.out)
            obtain ⟨b2, off2, L, cL, hA2, g0, g1, hS, _, _⟩ := (HE.out.ext (HX0.out.trans HXz.out)).g (k := j) (by rw [HLE.out]; exact hlt)
            subst hA2
            obtain ⟨hl2, hl40⟩ := lens_of HO3.out (k := j) (by rw [HLE.out]; exact hlt)
            obtain ⟨mm, hmm⟩ : ∃ mm, (gE es j).2.length = mm + 1 := ⟨(gE es j).2.length - 1, by omega⟩
            rw [hmm] at g1 hl2 hl40
            obtain ⟨ln, hln⟩ : ∃ ln, ln = (gE es j).2 := ⟨_, rfl⟩
            obtain ⟨NM, hNM⟩ : ∃ NM, NM = (gE es j).1 := ⟨_, rfl⟩
            rw [← hln] at hS hmm
            rw [← hNM] at g0
            have HLN := Lib.hid hln; have HNM := Lib.hid hNM; have HMM := Lib.hid hmm
            have hbe : b2 < w.heap.size := by
              obtain ⟨b3, off3, _, _, h3, g3, _⟩ := HE.out.g (k := j) (by rw [HLE.out]; exact hlt)
              injection h3 with h3; injection h3 with h3
              rw [h3]; exact cell_lt g3
            have hS' : SpotsAt w L ln := by
              obtain ⟨b3, off3, L3, c3, h3, _, g4, hs3, _⟩ := HE.out.g (k := j) (by rw [HLE.out]; exact hlt)
              injection h3 with h3; injection h3 with h3 h4
              subst h3; subst h4
              have := (HX0.out.trans HXz.out).cell g4
              rw [g1] at this
              injection this with this
              injection this with t1
              rw [t1, hln]; exact hs3
            have HS := Lib.hid hS'
            obtain ⟨_, p1, _, _, _, _, _⟩ := blk7 (HP.out.ext HXz.out)
            obtain ⟨a0, a1⟩ := blk2 HBA.out
            obtain ⟨b0, b1⟩ := blk2 HBB.out
            obtain ⟨M, hM⟩ : ∃ M, M = mulS m A0 := ⟨_, rfl⟩
            obtain ⟨N, hN⟩ : ∃ N, N = mulS m B0 := ⟨_, rfl⟩
            have f1 : IntKind.i64.wrap (m * A0.1) = M.1 := by rw [hM]; unfold mulS; rw [IntWalk.i64_left]
            have f2 : IntKind.i64.wrap (m * A0.2) = M.2 := by rw [hM]; unfold mulS; rw [IntWalk.i64_left]
            have f3 : IntKind.i64.wrap (m * B0.1) = N.1 := by rw [hN]; unfold mulS; rw [IntWalk.i64_left]
            have f4 : IntKind.i64.wrap (m * B0.2) = N.2 := by rw [hN]; unfold mulS; rw [IntWalk.i64_left]
            have HMb : Hid (-100000 ≤ M.1 ∧ M.1 ≤ 100000 ∧ -100000 ≤ M.2 ∧ M.2 ≤ 100000) := by
              have h := mulS_bd HMB.out HT.out hlt
              rw [← HA0.out, ← hM] at h
              exact ⟨h.1.1, h.1.2, h.2.1, h.2.2⟩
            have HNb : Hid (-100000 ≤ N.1 ∧ N.1 ≤ 100000 ∧ -100000 ≤ N.2 ∧ N.2 ≤ 100000) := by
              have h := mulS_bd HMB.out HT.out hm1
              rw [← HB0.out, ← hN] at h
              exact ⟨h.1.1, h.1.2, h.2.1, h.2.2⟩
            have HMe := Lib.hid hM; have HNe := Lib.hid hN
            have hwl : W0.heap.size ≤ wz.heap.size := HXz.out.size
            have hw0 : w.heap.size < W0.heap.size := HP.out.lt
            have hwr : W0.heap.size ≤ wr.heap.size := HX.out.size
            have HPS0 := HO.out
            obtain ⟨ps, hps, hor⟩ := HPS0
            obtain ⟨EL, hEL⟩ : ∃ EL, EL = (gradedE es cs m).take j := ⟨_, rfl⟩
            rw [← hEL] at hps hor
            have hELl : EL.length ≤ 1000 := by rw [hEL, List.length_take]; omega
            have HPS := Lib.hid (hps.ext HXC.out); have HOR := Lib.hid (own_ext hor HXC.out); have HEL := Lib.hid hEL
            have HLT : Hid (∀ g, u9.ownBlock = some g → W0.heap.size ≤ g ∧ g < wr.heap.size) := fun g hg => World.ownsRow.lt hor g hg
            clear hEL hps hor hM hN hS hS' hln hNM hmm
            have start : Ext W0 wz ∧ wz.cell? ⟨w.heap.size, 1, none⟩ = some (.slice (some ⟨b2, off2, none⟩) k cE) ∧ wz.cell? ⟨b2, off2 + j * 2, none⟩ = some (.string NM) ∧ wz.cell? ⟨b2, off2 + j * 2 + 1, none⟩ = some (.slice L (mm + 1) cL) ∧ wz.cell? ⟨ab, 0, none⟩ = some (.int .i64 A0.1) ∧ wz.cell? ⟨ab, 1, none⟩ = some (.int .i64 A0.2) ∧ wz.cell? ⟨bb, 0, none⟩ = some (.int .i64 B0.1) ∧ wz.cell? ⟨bb, 1, none⟩ = some (.int .i64 B0.2) := ⟨HXz.out, p1, g0, g1, a0, a1, b0, b1⟩
            have START := Lib.hid start
            have keep : ∀ W W1 : World, (Ext W0 W ∧ W.cell? ⟨w.heap.size, 1, none⟩ = some (.slice (some ⟨b2, off2, none⟩) k cE) ∧ W.cell? ⟨b2, off2 + j * 2, none⟩ = some (.string NM) ∧ W.cell? ⟨b2, off2 + j * 2 + 1, none⟩ = some (.slice L (mm + 1) cL) ∧ W.cell? ⟨ab, 0, none⟩ = some (.int .i64 A0.1) ∧ W.cell? ⟨ab, 1, none⟩ = some (.int .i64 A0.2) ∧ W.cell? ⟨bb, 0, none⟩ = some (.int .i64 B0.1) ∧ W.cell? ⟨bb, 1, none⟩ = some (.int .i64 B0.2)) → Ext W W1 → (Ext W0 W1 ∧ W1.cell? ⟨w.heap.size, 1, none⟩ = some (.slice (some ⟨b2, off2, none⟩) k cE) ∧ W1.cell? ⟨b2, off2 + j * 2, none⟩ = some (.string NM) ∧ W1.cell? ⟨b2, off2 + j * 2 + 1, none⟩ = some (.slice L (mm + 1) cL) ∧ W1.cell? ⟨ab, 0, none⟩ = some (.int .i64 A0.1) ∧ W1.cell? ⟨ab, 1, none⟩ = some (.int .i64 A0.2) ∧ W1.cell? ⟨bb, 0, none⟩ = some (.int .i64 B0.1) ∧ W1.cell? ⟨bb, 1, none⟩ = some (.int .i64 B0.2)) := fun W W1 ⟨h0, h1, h2, h3, h4, h5, h6, h7⟩ hy => ⟨h0.trans hy, hy.cell h1, hy.cell h2, hy.cell h3, hy.cell h4, hy.cell h5, hy.cell h6, hy.cell h7⟩
            have KEEP := Lib.hid keep
            have keepg : ∀ W W1 : World, (Ext W0 W ∧ W.cell? ⟨w.heap.size, 1, none⟩ = some (.slice (some ⟨b2, off2, none⟩) k cE) ∧ W.cell? ⟨b2, off2 + j * 2, none⟩ = some (.string NM) ∧ W.cell? ⟨b2, off2 + j * 2 + 1, none⟩ = some (.slice L (mm + 1) cL) ∧ W.cell? ⟨ab, 0, none⟩ = some (.int .i64 A0.1) ∧ W.cell? ⟨ab, 1, none⟩ = some (.int .i64 A0.2) ∧ W.cell? ⟨bb, 0, none⟩ = some (.int .i64 B0.1) ∧ W.cell? ⟨bb, 1, none⟩ = some (.int .i64 B0.2)) → W.grownBy W1 u9.ownBlock → (Ext W0 W1 ∧ W1.cell? ⟨w.heap.size, 1, none⟩ = some (.slice (some ⟨b2, off2, none⟩) k cE) ∧ W1.cell? ⟨b2, off2 + j * 2, none⟩ = some (.string NM) ∧ W1.cell? ⟨b2, off2 + j * 2 + 1, none⟩ = some (.slice L (mm + 1) cL) ∧ W1.cell? ⟨ab, 0, none⟩ = some (.int .i64 A0.1) ∧ W1.cell? ⟨ab, 1, none⟩ = some (.int .i64 A0.2) ∧ W1.cell? ⟨bb, 0, none⟩ = some (.int .i64 B0.1) ∧ W1.cell? ⟨bb, 1, none⟩ = some (.int .i64 B0.2)) := fun W W1 ⟨h0, h1, h2, h3, h4, h5, h6, h7⟩ hg => by
              have hne : ∀ x, (x < W0.heap.size ∨ wr.heap.size ≤ x) → some x ≠ u9.ownBlock := fun x hx' e => by have := HLT.out x e.symm; omega
              exact ⟨h0.grown hg (fun g hg' => (HLT.out g hg').1), (World.cell?_of_block (hg.block _ (cell_lt h1) (hne _ (.inl hw0)))).trans h1, (World.cell?_of_block (hg.block _ (cell_lt h2) (hne b2 (.inl (by omega))))).trans h2, (World.cell?_of_block (hg.block _ (cell_lt h3) (hne b2 (.inl (by omega))))).trans h3, (World.cell?_of_block (hg.block _ (cell_lt h4) (hne ab (.inr hga)))).trans h4, (World.cell?_of_block (hg.block _ (cell_lt h5) (hne ab (.inr hga)))).trans h5, (World.cell?_of_block (hg.block _ (cell_lt h6) (hne bb (.inr hgb)))).trans h6, (World.cell?_of_block (hg.block _ (cell_lt h7) (hne bb (.inr hgb)))).trans h7⟩
            have KEEPG := Lib.hid keepg
            have getw : ∀ W : World, (Ext W0 W ∧ W.cell? ⟨w.heap.size, 1, none⟩ = some (.slice (some ⟨b2, off2, none⟩) k cE) ∧ W.cell? ⟨b2, off2 + j * 2, none⟩ = some (.string NM) ∧ W.cell? ⟨b2, off2 + j * 2 + 1, none⟩ = some (.slice L (mm + 1) cL) ∧ W.cell? ⟨ab, 0, none⟩ = some (.int .i64 A0.1) ∧ W.cell? ⟨ab, 1, none⟩ = some (.int .i64 A0.2) ∧ W.cell? ⟨bb, 0, none⟩ = some (.int .i64 B0.1) ∧ W.cell? ⟨bb, 1, none⟩ = some (.int .i64 B0.2)) → Ext W0 W := fun W h => h.1
            have GETW := Lib.hid getw
            have H63 : Hid (EL.length + 1 ≤ maxLen) := by show _ ≤ _; unfold maxLen; omega
            have H64 : Hid ((EL.length + 1) * 40 ≤ 140737488355328) := by show _ ≤ _; omega
            clear start keep keepg getw p1 g0 g1 a0 a1 b0 b1
            go_wp2_with fail
            go_region_held3 (fun W => Ext W0 W ∧ W.cell? ⟨w.heap.size, 1, none⟩ = some (.slice (some ⟨b2, off2, none⟩) k cE) ∧ W.cell? ⟨b2, off2 + j * 2, none⟩ = some (.string NM) ∧ W.cell? ⟨b2, off2 + j * 2 + 1, none⟩ = some (.slice L (mm + 1) cL) ∧ W.cell? ⟨ab, 0, none⟩ = some (.int .i64 A0.1) ∧ W.cell? ⟨ab, 1, none⟩ = some (.int .i64 A0.2) ∧ W.cell? ⟨bb, 0, none⟩ = some (.int .i64 B0.1) ∧ W.cell? ⟨bb, 1, none⟩ = some (.int .i64 B0.2))
              (first | (with_reducible assumption) | (with_reducible exact KEEP.out wz _ START.out (Ext.drew (Ext.refl _))) | (with_reducible exact KEEP.out wz _ START.out CH.out) | (with_reducible exact KEEP.out wz _ START.out hxm') | (with_reducible exact KEEPG.out _ _ (KEEP.out wz _ START.out CH.out) hgrow) | fail)
              (first
                | (refine step_append_lies _ (by rfl) (.tmp 72) (.tmp 97) 22 (by rfl) W0.heap.size 67 e0 (.agg #[.string ⟨#[]⟩, .slice none 0 0]) 2 40 Tryz.underlying22 he0' hy0 hy1 hy2 rfl (by decide) u9 _ (ecells ps) (by rfl)
                     (own_ext HOR.out CH.out) ⟨wm.heap.size, 0, none⟩ 1 1 [.string NM, .slice Am (mm + 1) cm] (by rfl) (by rfl)
                     (World.news_of_block (cs := #[.string NM, .slice Am (mm + 1) cm]) (t := 67) (fr := (0, 0)) (heap_alloc_new wm _)) (by simp [Value.oneCell']) (by decide) H63.out H64.out
                     (Nat.le_trans hwl (Ext.size CH.out)) (wm.heap.size + 1) (by simp) ?_
                   intro gg cap wn hown1 hgrow hat hltn)
                | (go_at_call 34; refine (rgraded1_any NM L mm cL ln M N _ (HS.out.ext (HX0.out.trans (GETW.out _ ‹_›))) HMM.out (by omega) (by omega) HMb.out HNb.out).mono ?_; rintro e wm ⟨vm, rfl, hom, hxm⟩; obtain ⟨Am, cm, hvm, _⟩ := OwnT.slice' (n := mm + 1) hom (by rw [movedS_len]; exact HMM.out); subst hvm; have hxm' : Ext wz wm := Ext.trans (Ext.drew (Ext.refl _)) hxm; have CH : Hid (Ext wz (wm.alloc (.cells #[.string NM, .slice Am (mm + 1) cm] 67))) := Ext.alloc hxm' _)
                | fail)
            have hO' : OwnE wn W0.heap.size (.slice (some ⟨gg, 0, none⟩) (EL.length + 1) cap) ((gradedE es cs m).take (j + 1)) := by
              have hor1 := own_ext HOR.out CH.out
              have hp1 := (HPS.out.ext CH.out).grown hor1 (by decide) hgrow
              have hvm1 : OwnS wn W0.heap.size (.slice Am (mm + 1) cm) (movedS ln M N) := ((OwnS.ext hom ((Ext.refl _).alloc _)).grown hor1 (by decide) hgrow).base_le (by simpa using hwl)
              rw [gradedE_take (by rw [HLE.out]; exact hlt), ← HEL.out]
              have e : gradedAt es cs m j = (NM, movedS ln M N) := by
                unfold gradedAt
                rw [HLC.out, Nat.mod_eq_of_lt hlt, ← HLN.out, ← HNM.out, ← HA0.out, ← HB0.out, ← HMe.out, ← HNe.out]
              rw [e]
              refine ⟨ps ++ [(NM, .slice Am (mm + 1) cm)], hp1.snoc ⟨rfl, hvm1⟩, ?_⟩
              rw [ecells_append, List.length_append]; exact hown1
            have hxn : Ext W0 wn := And.left ‹Ext W0 wn ∧ _›
            have HO' := Lib.hid hO'; clear hO' hown1 hgrow hat hltn
            go_wp2_with fail
            exact ⟨⟨j + 1, by omega, by go_num, HO'.out, hxn⟩, by simp [intOf]; omega⟩
        · obtain rfl : j = k := by omega
          have hT : (gradedE es cs m).take j = gradedE es cs m := List.take_of_length_le (by rw [gradedE_len, HLE.out]; omega)
          have hO1 := HO.out
          rw [hT] at hO1
          obtain ⟨VA, vc, hvf, hEA, _, _⟩ := hO1.slice' (n := j) (by rw [gradedE_len, HLE.out])
          subst hvf
          have HO1 := Lib.hid hO1; have HEA := Lib.hid hEA; clear hO1 hEA hT HO
          have HR : Hid (gradedR es cs m = ocheck (gradedE es cs m)) := by
            show gradedR es cs m = _
            unfold gradedR
            rw [if_neg (by rw [HM.out]; decide), if_neg (by rw [HLE.out, HLC.out]; simp), if_neg (by rw [HLC.out, HT.out]; decide), if_neg (by rw [HZ.out]; simp)]
          go_wp2_with fail
          refine (rocheck_any VA j vc (gradedE es cs m) _ HEA.out (by rw [gradedE_len, HLE.out])).mono ?_
          rintro e w2 ⟨rfl, he2⟩
          have HXF := Lib.hid ((HX0.out.trans HX.out).trans he2)
          have HO2 := Lib.hid (HO1.out.ext he2); clear he2
          by_cases hz2 : ocheck (gradedE es cs m) = 0
          · have hzb2 : (ocheck (gradedE es cs m) != 0) = false := by rw [hz2]; rfl
            have HZ2 := Lib.hid hz2; clear hz2
            go_wp2_with fail
            go_ret2
            exact ⟨.slice VA j vc, by rw [HR.out, HZ2.out]; rfl, fun _ => HO2.out.base_le HX0.out.size, fun h => absurd (HR.out.trans HZ2.out) h, HXF.out⟩
          · have hzb2 : (ocheck (gradedE es cs m) != 0) = true := by simp [hz2]
            have HZ2 := Lib.hid hz2; clear hz2
            go_wp2_with fail
            go_ret2
            exact retG_bad HR.out HZ2.out HXF.out
end Go.Proofs.YtliijigdbpmpaaaGreat
