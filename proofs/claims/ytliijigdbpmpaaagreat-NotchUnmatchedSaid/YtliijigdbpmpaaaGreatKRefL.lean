/- the reference: garmentref20.named, Vertices, Check -/
import Derived.Deep.CutRange
import Derived.Deep.RegionHeld3
import Derived.Test.YtliijigdbpmpaaaGreatKRefH
import Derived.Test.YtliijigdbpmpaaaGreatKRefB
/- the reference: garmentref11.simple, Check -/
namespace Go.Proofs.YtliijigdbpmpaaaGreat
open Go.RowKit
theorem rside_true {l : List Spot} {n i : Nat} (h0 : eqS (gS l i).1 (gS l i).2 (gS l ((i + 1) % n)).1 (gS l ((i + 1) % n)).2 = false) (h1 : onB (gS l i) (gS l ((i + 1) % n)) (gS l ((i + 2) % n)) = false) (h2 : onB (gS l ((i + 1) % n)) (gS l ((i + 2) % n)) (gS l i) = false) (h3 : allB (meetF l n i) (n - (i + 2)) = true) : rsideF l n i = true := by
  unfold rsideF; rw [← eqS_dec, h0, h1, h2, h3]; rfl
set_option maxRecDepth 100000 in
set_option maxHeartbeats 3200000 in
theorem rsimple_any (A : Option Addr) (n c : Nat) (l : List Spot) (w : World) (ha : SpotsAt w A l) (hl : l.length = n) (hn' : n ≤ 1000) :
    Calls Tryz.prog 74 #[.slice A n c] w fun e w' => e = .returned (.bool (rsimpleB l)) ∧ Ext w w' := by
  have HL := Lib.hid hl; clear hl
  have HA := Lib.hid ha; clear ha
  go_enter Tryz.func74, Tryz.ntmps74
  go_wp2_with fail
  go_loopw [4] (fun i wr => ∃ k : Nat, k ≤ n ∧ i = .int .i64 k ∧ allB (rsideF l n) k = true ∧ Ext w wr) (fun i _ => n - (intOf i).toNat)
  case atStart => exact ⟨0, Nat.zero_le _, rfl, rfl, Ext.refl _⟩
  case round =>
    obtain ⟨i, hi, rfl, hs, hx⟩ := hrel
    have HS := Lib.hid hs; have HX := Lib.hid hx; clear hs hx
    by_cases hlt : i < n
    · have hil : i < l.length := by rw [HL.out]; exact hlt
      have hm1 : (i + 1) % n < n := Nat.mod_lt _ (by omega)
      have hm2 : (i + 2) % n < n := Nat.mod_lt _ (by omega)
      obtain ⟨b, off, hA, hc0, hc1⟩ := (HA.out.ext HX.out).g hil
      subst hA
      obtain ⟨hd0, hd1⟩ := (HA.out.ext HX.out).at1 (k := (i + 1) % n) (by rw [HL.out]; exact hm1)
      obtain ⟨hf0, hf1⟩ := (HA.out.ext HX.out).at1 (k := (i + 2) % n) (by rw [HL.out]; exact hm2)
      have hbl : b < wr.heap.size := cell_lt hc0
      obtain ⟨A0, hA0⟩ : ∃ A0, A0 = gS l i := ⟨_, rfl⟩
      obtain ⟨B0, hB0⟩ : ∃ B0, B0 = gS l ((i + 1) % n) := ⟨_, rfl⟩
      obtain ⟨C0, hC0⟩ : ∃ C0, C0 = gS l ((i + 2) % n) := ⟨_, rfl⟩
      rw [← hA0] at hc0 hc1
      rw [← hB0] at hd0 hd1
      rw [← hC0] at hf0 hf1
      have HA0 := Lib.hid hA0; have HB0 := Lib.hid hB0; have HC0 := Lib.hid hC0; clear hA0 hB0 hC0
      have hw1 : IntKind.i64.wrap ((i : Int) + 1) = (i : Int) + 1 := IntWalk.i64_in _ (by omega)
      have hnz : ((n : Int) == 0) = false := by simp; omega
      have hnp : 0 < n := by omega
      obtain ⟨hj0, hj1, hj2⟩ := mod_idx i n 1 1 rfl (by omega)
      have hnN : ¬ n = 0 := by omega
      have hj3 : ((i : Int) + 1).tmod n = (((i + 1) % n : Nat) : Int) := by rw [Int.tmod_eq_emod_of_nonneg (by omega)]; omega
      go_upto_region 5 with fail
      go_cut [5, 6] from 11 to 77 (fun pa pb wc => ∃ ab bb, pa = .pointer (some ⟨ab, 0, none⟩) ∧ pb = .pointer (some ⟨bb, 0, none⟩) ∧ Blk 57 wc ab [.int .i64 A0.1, .int .i64 A0.2] ∧ Blk 57 wc bb [.int .i64 B0.1, .int .i64 B0.2] ∧ Ext wr wc)
      case first =>
        have keep : ∀ W1 : World, Ext wr W1 → (Ext wr W1 ∧ W1.cell? ⟨b, off + i * 2, none⟩ = some (.int .i64 A0.1) ∧ W1.cell? ⟨b, off + i * 2 + 1, none⟩ = some (.int .i64 A0.2) ∧ W1.cell? ⟨b, off + (i + 1) % n * 2, none⟩ = some (.int .i64 B0.1) ∧ W1.cell? ⟨b, off + (i + 1) % n * 2 + 1, none⟩ = some (.int .i64 B0.2)) := fun W1 hx => ⟨hx, hx.cell hc0, hx.cell hc1, hx.cell hd0, hx.cell hd1⟩
        have KEEP := Lib.hid keep; clear keep hc0 hc1 hd0 hd1 hf0 hf1
        go_region_held3 (fun W => Ext wr W ∧ W.cell? ⟨b, off + i * 2, none⟩ = some (.int .i64 A0.1) ∧ W.cell? ⟨b, off + i * 2 + 1, none⟩ = some (.int .i64 A0.2) ∧ W.cell? ⟨b, off + (i + 1) % n * 2, none⟩ = some (.int .i64 B0.1) ∧ W.cell? ⟨b, off + (i + 1) % n * 2 + 1, none⟩ = some (.int .i64 B0.2))
          (first | assumption | exact KEEP.out _ (by repeat (first | exact Ext.refl _ | apply Ext.alloc | apply Ext.drew)) | fail)
          (first | fail)
        all_goals
          go_wp2_with fail
          go_meet
        all_goals
          refine ⟨_, _, rfl, rfl, ?_, ?_, ?_⟩
          · first
              | exact ((Blk.new' rfl).ext ((Ext.refl _).alloc _)).ext ((Ext.refl _).drew)
              | exact (Blk.new' (by simp)).ext ((Ext.refl _).drew)
              | fail
          · first
              | exact ((Blk.new' rfl).ext ((Ext.refl _).alloc _)).ext ((Ext.refl _).drew)
              | exact (Blk.new' (by simp)).ext ((Ext.refl _).drew)
              | fail
          · exact (((Ext.refl _).alloc _).alloc _).drew
      case rest =>
        obtain ⟨ab, bb, hpa, hpb, hBa, hBb, hxc⟩ := hcut
        subst hpa hpb
        have f0' := hxc.cell hf0
        have f1' := hxc.cell hf1
        have HBA := Lib.hid hBa; have HBB := Lib.hid hBb; have HXC := Lib.hid (HX.out.trans hxc)
        clear hc0 hc1 hd0 hd1 hf0 hf1 hj0 hj1 hj2 hj3 hw1 hbl hBa hBb hxc
        obtain ⟨a0, a1⟩ := blk2 HBA.out
        obtain ⟨b0, b1⟩ := blk2 HBB.out
        have hal : ab < wc.heap.size := HBA.out.lt
        have hbl : bb < wc.heap.size := HBB.out.lt
        have hcl : b < wc.heap.size := cell_lt f0'
        obtain ⟨hi0, hi1, hi2⟩ := mod_idx i n 2 2 rfl (by omega)
        go_upto_region 7 with fail
        refine wp_at fun W1 hW1 => ?_
        have hx1 : Ext wc W1 := by rw [hW1]; exact (Ext.refl _).alloc _
        have hBc : Blk 57 W1 wc.heap.size [.int .i64 C0.1, .int .i64 C0.2] := by rw [hW1]; exact Blk.new' rfl
        have HA1 := Lib.hid (HBA.out.ext hx1); have HB1 := Lib.hid (HBB.out.ext hx1); have HC1 := Lib.hid hBc; have HX1 := Lib.hid (HXC.out.trans hx1)
        clear hW1 hx1 hBc a0 a1 b0 b1 f0' f1' hi0 hi1 hi2 hal hbl hcl
        obtain ⟨cb, hcb⟩ : ∃ cb, cb = wc.heap.size := ⟨_, rfl⟩
        rw [← hcb] at HC1 ⊢
        clear hcb
        obtain ⟨a0, a1⟩ := blk2 HA1.out
        obtain ⟨b0, b1⟩ := blk2 HB1.out
        obtain ⟨c0, c1⟩ := blk2 HC1.out
        have hF : ∀ w', rsideF l n i = false → Ending.returned (.bool false) = .returned (.bool (rsimpleB l)) ∧ Ext w w' ∨ True := fun _ _ => .inr trivial
        clear hF
        cases hab : eqS A0.1 A0.2 B0.1 B0.2
        case true =>
          have HAB := Lib.hid hab
          go_wp2_with fail
          go_ret
          exact ⟨ret_bool (by unfold rsimpleB; rw [allB_false (k := i) hil (by unfold rsideF; rw [HL.out, ← HA0.out, ← HB0.out, ← eqS_dec, HAB.out]; rfl)]), HX1.out⟩
        have HAB := Lib.hid hab
        go_wp2_with fail
        refine (between_any A0 B0 C0 _).mono ?_
        rintro e w2 ⟨rfl, he2⟩
        have HA2 := Lib.hid (HA1.out.ext he2); have HB2 := Lib.hid (HB1.out.ext he2); have HC2 := Lib.hid (HC1.out.ext he2); have HX2 := Lib.hid (HX1.out.trans he2)
        clear he2 a0 a1 b0 b1 c0 c1 hab HA1 HB1 HC1 HX1
        obtain ⟨a0, a1⟩ := blk2 HA2.out
        obtain ⟨b0, b1⟩ := blk2 HB2.out
        obtain ⟨c0, c1⟩ := blk2 HC2.out
        cases h1 : onB A0 B0 C0
        case true =>
          have H1 := Lib.hid h1; clear h1
          go_wp2_with fail
          go_ret
          exact ⟨ret_bool (by unfold rsimpleB; rw [allB_false (k := i) hil (by unfold rsideF; rw [HL.out, ← HA0.out, ← HB0.out, ← HC0.out, H1.out]; simp)]), HX2.out⟩
        have H1 := Lib.hid h1; clear h1
        go_wp2_with fail
        refine (between_any B0 C0 A0 _).mono ?_
        rintro e w3 ⟨rfl, he3⟩
        have HA3 := Lib.hid (HA2.out.ext he3); have HB3 := Lib.hid (HB2.out.ext he3); have HX3 := Lib.hid (HX2.out.trans he3)
        clear he3 a0 a1 b0 b1 c0 c1 HA2 HB2 HC2 HX2
        obtain ⟨a0, a1⟩ := blk2 HA3.out
        obtain ⟨b0, b1⟩ := blk2 HB3.out
        cases h2 : onB B0 C0 A0
        case true =>
          have H2 := Lib.hid h2; clear h2
          go_wp2_with fail
          go_ret
          exact ⟨ret_bool (by unfold rsimpleB; rw [allB_false (k := i) hil (by unfold rsideF; rw [HL.out, ← HA0.out, ← HB0.out, ← HC0.out, H2.out]; simp)]), HX3.out⟩
        have H2 := Lib.hid h2; clear h2
        go_wp2_with fail
        go_loopw [8] (fun v wq => ∃ j : Nat, j ≤ n - (i + 2) ∧ v = .int .i64 ((i : Int) + 2 + j) ∧ allB (meetF l n i) j = true ∧ Ext w3 wq) (fun v _ => n + 2 - (intOf v).toNat)
        case atStart => exact ⟨0, Nat.zero_le _, by simp, rfl, Ext.refl _⟩
        case round =>
          obtain ⟨wq, rfl⟩ : ∃ wq : World, wq = wr := ⟨_, rfl⟩
          obtain ⟨j, hj, rfl, hs, hy⟩ := hrel
          have HJ := Lib.hid hs; have HY := Lib.hid hy; clear hs hy
          obtain ⟨g0, g1⟩ := blk2 (HA3.out.ext HY.out)
          obtain ⟨g2, g3⟩ := blk2 (HB3.out.ext HY.out)
          clear a0 a1 b0 b1
          by_cases hjk : i + 2 + j < n
          · have hjk' : (i : Int) + 2 + j < n := by omega
            obtain ⟨q0, q1, q2⟩ : 0 ≤ ((i : Int) + 2 + j + 1) % n ∧ ((i : Int) + 2 + j + 1) % n < n ∧ (((i : Int) + 2 + j + 1) % n).toNat = (i + 2 + j + 1) % n := by
              have h := mod_idx (i + 2 + j) n 1 1 rfl (by omega)
              simpa using h
            obtain ⟨f0, f1⟩ := (HA.out.ext (HX3.out.trans HY.out)).at1 (k := i + 2 + j) (by rw [HL.out]; exact hjk)
            obtain ⟨f2, f3⟩ := (HA.out.ext (HX3.out.trans HY.out)).at1 (k := (i + 2 + j + 1) % n) (by rw [HL.out]; exact Nat.mod_lt _ (by omega))
            have hn0 : 0 ≤ (i : Int) + 2 + j := by omega
            have hn1 : ((i : Int) + 2 + j).toNat = i + 2 + j := by omega
            go_upto_region 12 with fail
            have d0 := fun z : After wq => After.cell g0 z
            have d1 := fun z : After wq => After.cell g1 z
            have d2 := fun z : After wq => After.cell g2 z
            have d3 := fun z : After wq => After.cell g3 z
            have d4 := fun z : After wq => After.cell f0 z
            have d5 := fun z : After wq => After.cell f1 z
            have d6 := fun z : After wq => After.cell f2 z
            have d7 := fun z : After wq => After.cell f3 z
            by_cases hq : (i + 2 + j + 1) % n = i
            · have hqb : (((i : Int) + 2 + j + 1) % n != i) = false := by
                have : ((i : Int) + 2 + j + 1) % n = i := by omega
                simp [this]
              have HQ := Lib.hid hq; clear hq
              clear q2
              refine region_ext (by kernel_rfl) (by kernel_rfl) ?_
              repeat (go_big_quiet_step (fail))
              refine wpQuiet_nil ?_
              rintro w4 ⟨⟨_, he⟩, rfl⟩
              clear d0 d1 d2 d3 d4 d5 d6 d7 hqb
              go_wp2_with fail
              go_roundw
              case rel => exact ⟨j + 1, by omega, by go_num, allB_succ HJ.out (by unfold meetF; rw [HQ.out]; simp), HY.out.trans he⟩
              case measure => simp [intOf]; omega
            · have hqb : (((i : Int) + 2 + j + 1) % n != i) = true := by
                have : ¬ ((i : Int) + 2 + j + 1) % n = i := by omega
                simp [this]
              have HQ := Lib.hid hq; clear hq
              refine region_ext (by kernel_rfl) (by kernel_rfl) ?_
              repeat (go_big_quiet_step (
                (go_at_call 84; exact after_call (rmeet_any A0 B0 (gS l (i + 2 + j)) (gS l ((i + 2 + j + 1) % n)) _))))
              refine wpQuiet_nil ?_
              rintro w4 ⟨⟨_, he⟩, rfl⟩
              clear d0 d1 d2 d3 d4 d5 d6 d7 hqb
              cases hp : meetB A0 B0 (gS l (i + 2 + j)) (gS l ((i + 2 + j + 1) % n))
              · have HM := Lib.hid hp; clear hp
                go_wp2_with fail
                go_roundw
                case rel => exact ⟨j + 1, by omega, by go_num, allB_succ HJ.out (by unfold meetF; rw [← HA0.out, ← HB0.out, HM.out]; simp), HY.out.trans he⟩
                case measure => simp [intOf]; omega
              · have HM := Lib.hid hp; clear hp
                go_wp2_with fail
                go_ret
                exact ⟨ret_bool (by
                  unfold rsimpleB
                  rw [allB_false (k := i) (n := l.length) (f := rsideF l l.length) hil (by
                    unfold rsideF
                    rw [HL.out, allB_false (k := j) (by omega) (by unfold meetF; rw [← HA0.out, ← HB0.out, HM.out]; simp; exact HQ.out)]; simp)]), (HX3.out.trans HY.out).trans he⟩
          · have hjk' : ¬ (i : Int) + 2 + j < n := by omega
            go_wp2_with fail
            go_roundw
            case rel => exact ⟨i + 1, by omega, by go_num, allB_succ HS.out (rside_true (by rw [← HA0.out, ← HB0.out]; exact HAB.out) (by rw [← HA0.out, ← HB0.out, ← HC0.out]; exact H1.out) (by rw [← HA0.out, ← HB0.out, ← HC0.out]; exact H2.out) (by
              have h : n - (i + 2) = j := by omega
              rw [h]; exact HJ.out)), HX3.out.trans HY.out⟩
            case measure => simp [intOf]; omega
    · go_wp2_with fail
      go_ret
      exact ⟨ret_bool (by
        obtain rfl : i = n := by omega
        unfold rsimpleB
        rw [HL.out, HS.out]), HX.out⟩
end Go.Proofs.YtliijigdbpmpaaaGreat
/- the reference: garmentref11.Check; garmentref17.digit, Name; garmentref20.named -/
namespace Go.Proofs.YtliijigdbpmpaaaGreat
open Go.RowKit
theorem allB_of_any {l : List Spot} (h : ∀ k, k < l.length → outB (gS l k) = false) : AllB l := fun k hk => by
  have := h k hk
  unfold outB at this
  simp at this
  unfold inB; omega
theorem rany_out {l : List Spot} (h : ∀ k, k < l.length → outB (gS l k) = false) : l.any outB = false := by
  rw [List.any_eq_false]
  intro s hs
  obtain ⟨k, hk, rfl⟩ := List.getElem_of_mem hs
  rw [← gS_eq hk, h k hk]; simp
set_option maxHeartbeats 800000 in
theorem rpcheck_any (A : Option Addr) (n c : Nat) (l : List Spot) (w : World) (ha : SpotsAt w A l) (hl : l.length = n) :
    Calls Tryz.prog 57 #[.slice A n c] w fun e w' => e = .returned (.int .i64 (pcheck l)) ∧ Ext w w' := by
  have HL := Lib.hid hl; clear hl
  have HA := Lib.hid ha; clear ha
  by_cases h40 : 40 < n
  · go_enter Tryz.func57, Tryz.ntmps57
    go_wp2_with fail
    go_ret
    exact ⟨ret_int (by unfold pcheck; rw [HL.out, if_pos h40]), Ext.refl _⟩
  by_cases h3 : n < 3
  · go_enter Tryz.func57, Tryz.ntmps57
    go_wp2_with fail
    go_ret
    exact ⟨ret_int (by unfold pcheck; rw [HL.out, if_neg h40, if_pos h3]), Ext.refl _⟩
  go_enter Tryz.func57, Tryz.ntmps57
  go_wp2_with fail
  go_loopw [3] (fun i wr => ∃ k : Nat, k ≤ n ∧ i = .int .i64 k ∧ (∀ j, j < k → outB (gS l j) = false) ∧ Ext w wr) (fun i _ => n - (intOf i).toNat)
  case atStart => exact ⟨0, Nat.zero_le _, rfl, fun j hj => absurd hj (Nat.not_lt_zero _), Ext.refl _⟩
  case round =>
    obtain ⟨k, hk, rfl, hall, hx⟩ := hrel
    have HALL := Lib.hid hall; have HX := Lib.hid hx; clear hall hx
    by_cases hlt : k < n
    · have hkl : k < l.length := by rw [HL.out]; exact hlt
      obtain ⟨b, off, hA, hc0, hc1⟩ := (HA.out.ext HX.out).g hkl
      subst hA
      go_wp2_with fail
      refine (rwithin_any (gS l k) _).mono ?_
      rintro e w1 ⟨rfl, he⟩
      have HX1 := Lib.hid (HX.out.trans he)
      clear he hc0 hc1
      cases ho : outB (gS l k)
      · have HO := Lib.hid ho; clear ho
        go_wp2_with fail
        go_roundw
        case rel => exact ⟨k + 1, by omega, by go_num, fun j hj => by
          rcases Nat.lt_succ_iff_lt_or_eq.1 hj with h | h
          · exact HALL.out j h
          · subst h; exact HO.out, HX1.out⟩
        case measure => simp [intOf]; omega
      · have HO := Lib.hid ho; clear ho
        go_wp2_with fail
        go_ret
        refine ⟨ret_int ?_, HX1.out⟩
        have hany : l.any outB = true := by
          rw [List.any_eq_true]
          exact ⟨gS l k, by rw [gS_eq hkl]; exact List.getElem_mem hkl, HO.out⟩
        unfold pcheck; rw [HL.out, if_neg h40, if_neg h3, if_pos hany]
    · obtain rfl : k = n := by omega
      have HB : Hid (AllB l) := allB_of_any (fun j hj => HALL.out j (by rw [HL.out] at hj; exact hj))
      have HN : Hid (l.any outB = false) := rany_out (fun j hj => HALL.out j (by rw [HL.out] at hj; exact hj))
      go_wp2_with fail
      refine (rsimple_any A k c l _ (HA.out.ext HX.out) HL.out (by omega)).mono ?_
      rintro e w1 ⟨rfl, he⟩
      have HX1 := Lib.hid (HX.out.trans he); clear he
      rw [rsimple_eq HB.out (by rw [HL.out]; omega)]
      cases hs : simpleB l
      · have HS := Lib.hid hs; clear hs
        go_wp2_with fail
        go_ret
        exact ⟨ret_int (by unfold pcheck; rw [HL.out, if_neg h40, if_neg h3, HN.out, HS.out]; rfl), HX1.out⟩
      · have HS := Lib.hid hs; clear hs
        go_wp2_with fail
        go_ret
        exact ⟨ret_int (by unfold pcheck; rw [HL.out, if_neg h40, if_neg h3, HN.out, HS.out]; rfl), HX1.out⟩
/- names -/
theorem rdigit_any (c : Int) (w : World) :
    Calls Tryz.prog 72 #[.int .u8 c] w fun e w' => e = .returned (.bool (digitB c)) ∧ w = w' := by
  by_cases h1 : 48 ≤ c
  · by_cases h2 : c ≤ 57
    · go_enter Tryz.func72, Tryz.ntmps72
      go_wp2
      go_ret
      exact ⟨ret_bool (by simp [digitB, h1, h2]), rfl⟩
    · go_enter Tryz.func72, Tryz.ntmps72
      go_wp2
      go_ret
      exact ⟨ret_bool (by simp [digitB, h2]), rfl⟩
  · go_enter Tryz.func72, Tryz.ntmps72
    go_wp2
    go_ret
    exact ⟨ret_bool (by symm; unfold digitB; simp; omega), rfl⟩
def chR (s : ByteArray) (i : Nat) : Bool := smallB (bt s i) || (bt s i == 95 || digitB (bt s i))
theorem nameR {s : ByteArray} (h0 : (s.size == 0) = false) (h1 : decide (24 < s.size) = false) (h2 : (s.toList == [109, 105, 110]) = false) (h3 : (s.toList == [109, 97, 120]) = false) (hs : smallB (bt s 0) = true) (h : allB (chR s) s.size = true) : nameB s = true := by
  unfold nameB
  rw [h0, h1, h2, h3]
  simp only [Bool.not_false, Bool.true_and]
  rw [allB_iff] at h ⊢
  intro i hi
  unfold chF
  by_cases hi0 : i = 0
  · subst hi0; rw [hs]; rfl
  · have := h i hi
    unfold chR at this
    rw [show (i == 0) = false from by simpa using hi0]
    simpa using this
theorem nameR_small {s : ByteArray} (h0 : 0 < s.size) (hs : smallB (bt s 0) = false) : nameB s = false := by
  have : chF s 0 = false := by unfold chF; rw [hs]; rfl
  unfold nameB; rw [allB_false h0 this]; simp
theorem nameR_ch {s : ByteArray} {k : Nat} (hk : k < s.size) (h : chR s k = false) : nameB s = false := by
  have : chF s k = false := by
    unfold chR at h; unfold chF
    simp at h ⊢
    exact ⟨h.1, fun _ => h.2⟩
  unfold nameB; rw [allB_false hk this]; simp
theorem str_len (s : ByteArray) : s.toList.length = s.size := by rw [ByteArray.toList_eq]; rfl
set_option maxRecDepth 100000 in
set_option maxHeartbeats 1600000 in
theorem rname_test (s : ByteArray) (w : World) (hz : (s.toList == []) = false) (h1 : decide (24 < (s.size : Int)) = false) (h2 : (s.toList == [109, 105, 110]) = false) (h3 : (s.toList == [109, 97, 120]) = false) :
    Calls Tryz.prog 55 #[.string s] w fun e w' => e = .returned (.bool (nameB s)) ∧ w = w' := by
  have h24 : s.size ≤ 24 := by simp at h1; omega
  have hne : ¬ s.toList = [] := by simpa using hz
  have hp : 0 < s.size := by
    rcases Nat.eq_zero_or_pos s.size with h | h
    · exact absurd (List.eq_nil_of_length_eq_zero (by rw [str_len]; exact h)) hne
    · exact h
  have hem : s.toList.isEmpty = false := by
    cases hh : s.toList with
    | nil => exact absurd hh hne
    | cons a b => rfl
  have H0 : Hid ((s.size == 0) = false) := by show (s.size == 0) = false; rw [beq_eq_false_iff_ne]; omega
  have H1 : Hid (decide (24 < s.size) = false) := by show _ = _; simp; omega
  have H2 := Lib.hid h2; have H3 := Lib.hid h3
  by_cases ha : (s[0].toNat : Int) < 97
  · have HF : Hid (nameB s = false) := nameR_small hp (by unfold smallB; rw [← bt_eq hp]; simp; omega)
    go_enter Tryz.func55, Tryz.ntmps55
    go_wp2_with fail
    go_ret
    exact ⟨ret_bool HF.out.symm, rfl⟩
  by_cases hb : 122 < (s[0].toNat : Int)
  · have HF : Hid (nameB s = false) := nameR_small hp (by unfold smallB; rw [← bt_eq hp]; simp; omega)
    go_enter Tryz.func55, Tryz.ntmps55
    go_wp2_with fail
    go_ret
    exact ⟨ret_bool HF.out.symm, rfl⟩
  have HSM : Hid (smallB (bt s 0) = true) := by show _ = _; unfold smallB; rw [← bt_eq hp]; simp; omega
  go_enter Tryz.func55, Tryz.ntmps55
  go_wp2_with fail
  clear ha hb hz hne hem h2 h3
  go_loop [3] (fun i => ∃ k : Nat, k ≤ s.size ∧ i = .int .i64 k ∧ allB (chR s) k = true) (fun i => s.size - (intOf i).toNat)
  case atStart => exact ⟨0, Nat.zero_le _, rfl, rfl⟩
  case round =>
    obtain ⟨k, hk, rfl, ht⟩ := hrel
    have HT := Lib.hid ht; clear ht
    by_cases hlt : k < s.size
    · go_wp2_with fail
      refine (rdigit_any _ _).mono ?_
      rintro e w1 ⟨rfl, rfl⟩
      cases hd : digitB (s[k].toNat : Int)
      rotate_left
      · have HD := Lib.hid hd; clear hd
        go_wp2_with fail
        go_round
        case rel => exact ⟨k + 1, by omega, by go_num, allB_succ HT.out (by unfold chR; rw [← bt_eq hlt, HD.out]; simp)⟩
        case measure => simp [intOf]; omega
      have HD := Lib.hid hd; clear hd
      by_cases h95 : (s[k].toNat : Int) = 95
      · have h95b : ((s[k].toNat : Int) != 95) = false := by rw [h95]; decide
        have H95 := Lib.hid h95; clear h95
        go_wp2_with fail
        go_round
        case rel => exact ⟨k + 1, by omega, by go_num, allB_succ HT.out (by unfold chR; rw [← bt_eq hlt, H95.out]; simp)⟩
        case measure => simp [intOf]; omega
      have h95b : ((s[k].toNat : Int) != 95) = true := by simp; omega
      by_cases hsa : (s[k].toNat : Int) < 97
      · have HF : Hid (nameB s = false) := nameR_ch hlt (by unfold chR; rw [← bt_eq hlt, HD.out]; unfold smallB; simp; omega)
        go_wp2_with fail
        go_ret
        exact ⟨ret_bool HF.out.symm, rfl⟩
      by_cases hsb : 122 < (s[k].toNat : Int)
      · have HF : Hid (nameB s = false) := nameR_ch hlt (by unfold chR; rw [← bt_eq hlt, HD.out]; unfold smallB; simp; omega)
        go_wp2_with fail
        go_ret
        exact ⟨ret_bool HF.out.symm, rfl⟩
      have HSK : Hid (chR s k = true) := by show _ = _; unfold chR; rw [← bt_eq hlt]; unfold smallB; simp; omega
      go_wp2_with fail
      go_round
      case rel => exact ⟨k + 1, by omega, by go_num, allB_succ HT.out HSK.out⟩
      case measure => simp [intOf]; omega
    · obtain rfl : k = s.size := by omega
      go_wp2_with fail
      go_ret
      exact ⟨ret_bool (nameR H0.out H1.out H2.out H3.out HSM.out HT.out).symm, rfl⟩
theorem rname_any (s : ByteArray) (w : World) : Calls Tryz.prog 55 #[.string s] w fun e w' => e = .returned (.bool (nameB s)) ∧ w = w' := by
  cases h0 : (s.toList == [])
  case true =>
    have hnil : s.toList = [] := by simpa using h0
    have H : Hid (nameB s = false) := by
      have hl := str_len s
      rw [hnil] at hl
      have : (s.size == 0) = true := by rw [beq_iff_eq]; exact hl.symm
      show nameB s = false
      unfold nameB; rw [this]; rfl
    have hem : s.toList.isEmpty = true := by rw [hnil]; rfl
    go_enter Tryz.func55, Tryz.ntmps55
    go_wp2_with fail
    go_ret
    exact ⟨ret_bool H.out.symm, rfl⟩
  have hne : ¬ s.toList = [] := by simpa using h0
  have hem : s.toList.isEmpty = false := by
    cases hh : s.toList with
    | nil => exact absurd hh hne
    | cons a b => rfl
  cases h1 : decide (24 < (s.size : Int))
  case true =>
    have H : Hid (nameB s = false) := by
      have : decide (24 < s.size) = true := by simp at h1 ⊢; omega
      show nameB s = false
      unfold nameB; rw [this]; simp
    go_enter Tryz.func55, Tryz.ntmps55
    go_wp2_with fail
    go_ret
    exact ⟨ret_bool H.out.symm, rfl⟩
  cases h2 : (s.toList == [109, 105, 110])
  case true =>
    have H : Hid (nameB s = false) := by
      show nameB s = false
      unfold nameB; rw [h2]; simp
    go_enter Tryz.func55, Tryz.ntmps55
    go_wp2_with fail
    go_ret
    exact ⟨ret_bool H.out.symm, rfl⟩
  cases h3 : (s.toList == [109, 97, 120])
  case true =>
    have H : Hid (nameB s = false) := by
      show nameB s = false
      unfold nameB; rw [h3]; simp
    go_enter Tryz.func55, Tryz.ntmps55
    go_wp2_with fail
    go_ret
    exact ⟨ret_bool H.out.symm, rfl⟩
  exact rname_test s w h0 h1 h2 h3
end Go.Proofs.YtliijigdbpmpaaaGreat
namespace Go.Proofs.YtliijigdbpmpaaaGreat
open Go.RowKit
set_option maxHeartbeats 800000 in
theorem named_any (A : Option Addr) (n c k : Nat) (l : List Edge) (nm : ByteArray) (w : World) (ha : EdgesAt w A l) (hl : l.length = n) (hk : k ≤ n) (hn : n ≤ 1000) :
    Calls Tryz.prog 56 #[.slice A n c, .int .i64 (k : Int), .string nm] w fun e w' => e = .returned (.bool (!allB (fun j => !((gE l j).1.toList == nm.toList)) k)) ∧ w = w' := by
  have HL := Lib.hid hl; clear hl
  have HA := Lib.hid ha; clear ha
  go_enter Tryz.func56, Tryz.ntmps56
  go_wp2_with fail
  go_loop [7] (fun i => ∃ j : Nat, j ≤ k ∧ i = .int .i64 j ∧ allB (fun j => !((gE l j).1.toList == nm.toList)) j = true) (fun i => k - (intOf i).toNat)
  case atStart => exact ⟨0, Nat.zero_le _, rfl, rfl⟩
  case round =>
    obtain ⟨j, hj, rfl, ht⟩ := hrel
    have HT := Lib.hid ht; clear ht
    by_cases hlt : j < k
    · obtain ⟨b, off, L, cL, hA, hc0, hc1, hs, hcl, hcm⟩ := HA.out.g (k := j) (by rw [HL.out]; omega)
      subst hA
      clear hs
      have hjn : j < n := by omega
      cases hp : ((gE l j).1.toList == nm.toList)
      · go_wp2_with fail
        go_round
        case rel => exact ⟨j + 1, by omega, by go_num, allB_succ HT.out (by rw [hp]; rfl)⟩
        case measure => simp [intOf]; omega
      · have HP := Lib.hid hp
        go_wp2_with fail
        go_ret
        exact ⟨ret_bool (by rw [allB_false (k := j) hlt (by rw [HP.out]; rfl)]; rfl), rfl⟩
    · obtain rfl : j = k := by omega
      go_wp2_with fail
      go_ret
      exact ⟨ret_bool (by rw [HT.out]; rfl), rfl⟩
set_option maxRecDepth 100000 in
set_option maxHeartbeats 800000 in
theorem rvertices_any (A : Option Addr) (n c : Nat) (l : List Edge) (w : World) (ha : EdgesAt w A l) (hl : l.length = n) (hn : n ≤ 1000) (hlen : ∀ k, k < n → 1 ≤ (gE l k).2.length ∧ (gE l k).2.length ≤ 40) :
    Calls Tryz.prog 58 #[.slice A n c] w (RetS w (verts l)) := by
  have HL := Lib.hid hl; clear hl
  have HA := Lib.hid ha; clear ha
  have HN := Lib.hid hlen; clear hlen
  obtain ⟨i0, hi0, hz0, hz1, hz2⟩ := info_parts spot_info
  go_enter Tryz.func58, Tryz.ntmps58
  go_wp2
  go_loopw [3, 4] (fun v i wr => ∃ k : Nat, k ≤ n ∧ i = .int .i64 k ∧ OwnS wr w.heap.size v (verts (l.take k)) ∧ Ext w wr) (fun _ i _ => n - (intOf i).toNat)
  case atStart => exact ⟨0, Nat.zero_le _, rfl, OwnS.nil _ _, Ext.refl _⟩
  case round =>
    obtain ⟨k, hk, rfl, ho, hx⟩ := hrel
    have HO := Lib.hid ho; clear ho
    by_cases hlt : k < n
    · have hkl : k < l.length := by rw [HL.out]; exact hlt
      obtain ⟨b, off, L, cL, rfl, hc0, hc1, hs, hcl, hcm⟩ := (HA.out.ext hx).g hkl
      obtain ⟨hm1, hm40⟩ := HN.out k hlt
      obtain ⟨m, hm⟩ : ∃ m, (gE l k).2.length = m + 1 := ⟨(gE l k).2.length - 1, by omega⟩
      have HD := Lib.hid (dropLast_take hm)
      have hs' := hs.take m
      obtain ⟨bl, ol, rfl, _⟩ := hs.g (k := 0) (by omega)
      rw [hm] at hc1 hcl hm40
      have HM := Lib.hid hm; clear hm
      have HS := Lib.hid hs'; clear hs' hs
      have hvl : (verts (l.take k)).length ≤ 40000 := by
        have h := verts_len (l := l.take k) (fun e he => by
          obtain ⟨j, hj, rfl⟩ := List.getElem_of_mem he
          have hjk : j < n := by have h2 : (l.take k).length ≤ k := List.length_take_le _ _; omega
          have := (HN.out j hjk).2
          rw [gE_eq (by rw [HL.out]; exact hjk)] at this
          simpa using this)
        have h2 : (l.take k).length ≤ k := List.length_take_le _ _
        omega
      have HV := Lib.hid hvl; clear hvl
      go_wp2_with (at_builtin; refine wpList_append_own _ rfl (.tmp 20) (.tmp 28) 24 rfl w.heap.size 57 i0 (.agg #[.int .i64 0, .int .i64 0]) 2 16 Tryz.underlying24 hi0 hz0 hz1 hz2 rfl (by decide) _ _ _ rfl HO.out ⟨bl, ol, none⟩ m cL (scells ((gE l k).2.take m)) rfl ?c1 ?c2 ?c3 ?c4 ?c5 ?c6 ?_)
      case c1 => rw [scells_length, List.length_take, HM.out]; omega
      case c2 => exact HS.out.cells
      case c3 => exact scells_one' _
      case c4 => have := HV.out; unfold maxLen; omega
      case c5 => have := HV.out; omega
      case c6 => exact hx.size
      intro v' w1 hown' hgrow _
      have hO' : OwnS w1 w.heap.size v' (verts (l.take (k + 1))) := by
        rw [verts_succ hkl, HD.out]
        unfold OwnS
        rw [scells_append, List.length_append, List.length_take, HM.out, show min m (m + 1) = m from by omega]
        exact hown'
      have hx' : Ext w w1 := hx.grown hgrow (fun g hg => (World.ownsRow.lt HO.out g hg).1)
      have HO' := Lib.hid hO'; clear hO' hown' hgrow
      go_wp2_with fail
      go_roundw
      case rel => exact ⟨k + 1, by omega, by go_num, HO'.out, hx'⟩
      case measure => simp [intOf]; omega
    · go_wp2_with fail
      go_ret
      exact ⟨_, rfl, by
        have h := HO.out
        rw [List.take_of_length_le (by rw [HL.out]; omega)] at h
        exact h, hx⟩
set_option maxRecDepth 100000 in
set_option maxHeartbeats 1600000 in
theorem rocheck_any (A : Option Addr) (n c : Nat) (l : List Edge) (w : World) (ha : EdgesAt w A l) (hl : l.length = n) :
    Calls Tryz.prog 33 #[.slice A n c] w fun e w' => e = .returned (.int .i64 (ocheck l)) ∧ Ext w w' := by
  have HL := Lib.hid hl; clear hl
  have HA := Lib.hid ha; clear ha
  by_cases h16 : 16 < n
  · go_enter Tryz.func33, Tryz.ntmps33
    go_wp2_with fail
    go_ret
    exact ⟨ret_int (by unfold ocheck; rw [HL.out, if_pos h16]), Ext.refl _⟩
  by_cases h2 : n < 2
  · go_enter Tryz.func33, Tryz.ntmps33
    go_wp2_with fail
    go_ret
    exact ⟨ret_int (by unfold ocheck; rw [HL.out, if_neg (by omega), if_pos h2]), Ext.refl _⟩
  have hfail : ∀ k, k < n → firstE (edgeE l) k = 0 → ∀ e, edgeE l k = e → e ≠ 0 → e = ocheck l := fun k hk h0 e he hne => by
    have h := firstE_at (n := n) hk h0 (by rw [he]; exact hne)
    unfold ocheck
    rw [HL.out, if_neg (by omega), if_neg (by omega), h, he, if_pos hne]
  have HF := Lib.hid hfail; clear hfail
  go_enter Tryz.func33, Tryz.ntmps33
  go_wp2_with fail
  go_loopw [3] (fun i wr => ∃ k : Nat, k ≤ n ∧ i = .int .i64 k ∧ firstE (edgeE l) k = 0 ∧ Ext w wr) (fun i _ => n - (intOf i).toNat)
  case atStart => exact ⟨0, Nat.zero_le _, rfl, rfl, Ext.refl _⟩
  case round =>
    obtain ⟨k, hk, rfl, ht, hx⟩ := hrel
    have HT := Lib.hid ht; have HX := Lib.hid hx; clear ht hx
    by_cases hlt : k < n
    · have hkl : k < l.length := by rw [HL.out]; exact hlt
      obtain ⟨b, off, L, cL, hA, hc0, hc1, hs, hcl, hcm⟩ := (HA.out.ext HX.out).g hkl
      subst hA
      have HS := Lib.hid hs; clear hs
      go_wp2_with fail
      refine (rname_any (gE l k).1 _).mono ?_
      rintro e w1 ⟨rfl, rfl⟩
      cases hp : nameB (gE l k).1
      · have HP := Lib.hid hp; clear hp
        go_wp2_with fail
        go_ret
        exact ⟨ret_int (HF.out k hlt HT.out 1 (by unfold edgeE; rw [if_pos HP.out]) (by decide)), HX.out⟩
      have HP := Lib.hid hp; clear hp
      go_wp2_with fail
      refine (named_any _ n c k l (gE l k).1 _ (HA.out.ext HX.out) HL.out (by omega) (by omega)).mono ?_
      rintro e w1 ⟨rfl, rfl⟩
      obtain ⟨NB, hNB⟩ : ∃ NB, NB = allB (fun j => !((gE l j).1.toList == (gE l k).1.toList)) k := ⟨_, rfl⟩
      rw [← hNB]
      have HNB := Lib.hid hNB; clear hNB
      cases NB
      · go_wp2_with fail
        go_ret
        exact ⟨ret_int (HF.out k hlt HT.out 7 (by
          unfold edgeE
          rw [if_neg (by rw [HP.out]; decide), if_pos]
          exact HNB.out.symm) (by decide)), HX.out⟩
      go_wp2_with fail
      refine (rcheck_any L _ cL (gE l k).2 _ HS.out rfl).mono ?_
      rintro e w2 ⟨rfl, he2⟩
      have HE : Hid (edgeE l k = lcheck (gE l k).2) := by
        show edgeE l k = _
        unfold edgeE
        rw [if_neg (by rw [HP.out]; decide), if_neg (by
          have h := HNB.out
          unfold sameN
          rw [← h]; decide)]
      have HX2 := Lib.hid (HX.out.trans he2); clear he2 hc0 hc1
      by_cases hz : lcheck (gE l k).2 = 0
      · have hzb : (lcheck (gE l k).2 != 0) = false := by rw [hz]; rfl
        have HZ := Lib.hid hz; clear hz
        go_wp2_with fail
        go_roundw
        case rel => exact ⟨k + 1, by omega, by go_num, firstE_succ HT.out (by rw [HE.out, HZ.out]), HX2.out⟩
        case measure => simp [intOf]; omega
      · have hzb : (lcheck (gE l k).2 != 0) = true := by simp [hz]
        have HZ := Lib.hid hz; clear hz
        go_wp2_with fail
        go_ret
        exact ⟨ret_int (HF.out k hlt HT.out _ HE.out HZ.out), HX2.out⟩
    · obtain rfl : k = n := by omega
      clear hlt hk HF
      go_wp2_with fail
      go_loopw [5] (fun i wq => ∃ j : Nat, j ≤ k ∧ i = .int .i64 j ∧ allB (joinF l k) j = true ∧ Ext w wq) (fun i _ => k - (intOf i).toNat)
      case atStart => exact ⟨0, Nat.zero_le _, rfl, rfl, HX.out⟩
      case round =>
        clear HX
        obtain ⟨wq, rfl⟩ : ∃ wq : World, wq = wr := ⟨_, rfl⟩
        obtain ⟨j, hj, rfl, hs, hx⟩ := hrel
        have HJ := Lib.hid hs; clear hs
        by_cases hjk : j < k
        · have hm1 : (j + 1) % k < k := Nat.mod_lt _ (by omega)
          obtain ⟨b, off, L, cL, rfl, hc0, hc1, hs, hcl, hcm⟩ := (HA.out.ext hx).g (k := j) (by rw [HL.out]; exact hjk)
          obtain ⟨L', cL', hd0, hd1, hs', hcl', hcm'⟩ := (HA.out.ext hx).at1 (k := (j + 1) % k) (by rw [HL.out]; exact hm1)
          obtain ⟨hle, hle'⟩ := lens_of HT.out hjk
          obtain ⟨hre, hre'⟩ := lens_of HT.out hm1
          obtain ⟨m, hm⟩ : ∃ m, (gE l j).2.length = m + 1 := ⟨(gE l j).2.length - 1, by omega⟩
          obtain ⟨bl, ol, rfl, hl0, hl1⟩ := hs.g (k := m) (by omega)
          obtain ⟨br, or_, rfl, hr0, hr1⟩ := hs'.g (k := 0) (by omega)
          simp only [Nat.zero_mul, Nat.add_zero] at hr0 hr1
          rw [hm] at hc1 hcl hle hle'
          have HM := Lib.hid hm; clear hm hs hs'
          obtain ⟨mr, hmr⟩ : ∃ mr, (gE l ((j + 1) % k)).2.length = mr + 1 := ⟨(gE l ((j + 1) % k)).2.length - 1, by omega⟩
          rw [hmr] at hd1 hcl' hre hre'
          have HMR := Lib.hid hmr; clear hmr
          have hp0 := eqS_dec (gS (gE l j).2 m) (gS (gE l ((j + 1) % k)).2 0)
          have HQ : Hid (joinF l k j = eqS (gS (gE l j).2 m).1 (gS (gE l j).2 m).2 (gS (gE l ((j + 1) % k)).2 0).1 (gS (gE l ((j + 1) % k)).2 0).2) := by
            show joinF l k j = _
            unfold joinF
            rw [HM.out, hp0]; rfl
          clear hp0
          have hi0 : 0 ≤ (m : Int) := by omega
          have hi1 : (m : Int) < m + 1 := by omega
          have hi2 : (0 : Int) < (mr : Int) + 1 := by omega
          have hnN : ¬ k = 0 := by omega
          have HX := Lib.hid hx
          obtain ⟨E0, hE0⟩ : ∃ E0, E0 = eqS (gS (gE l j).2 m).1 (gS (gE l j).2 m).2 (gS (gE l ((j + 1) % k)).2 0).1 (gS (gE l ((j + 1) % k)).2 0).2 := ⟨_, rfl⟩
          have HE0 := Lib.hid hE0; clear hE0
          clear hx hcl hcm hcl' hcm' hle hre hre' hc0 hd0
          have hnz : ((k : Int) == 0) = false := by simp; omega
          have hnp : 0 < k := by omega
          obtain ⟨hq0, hq1, hq2⟩ := mod_idx j k 1 1 rfl (by omega)
          go_upto_region 18 with fail
          refine wp_region_quiet_lit (by kernel_rfl) (by kernel_rfl) ?_
          repeat (first | go_big_quiet_step (fail) | (go_big_quiet_want; go_simp; go_big_quiet_on))
          refine wpQuiet_nil ?_
          rintro _ ⟨nq, rfl⟩
          clear hq0 hq1 hq2 hnN
          have hi3 : IntKind.i64.wrap (m : Int) = m := IntWalk.i64_in _ (by omega)
          go_wp2_with fail
          refine wp_region_quiet_lit (by kernel_rfl) (by kernel_rfl) ?_
          repeat (first | go_big_quiet_step (fail) | (go_big_quiet_want; go_simp; go_big_quiet_on))
          refine wpQuiet_nil ?_
          rintro _ ⟨nq2, rfl⟩
          rw [← HE0.out]
          clear hi3
          cases E0
          · go_wp2_with fail
            go_ret
            exact ⟨ret_int (by
              unfold ocheck
              rw [HL.out, if_neg (by omega), if_neg (by omega), if_neg (by rw [HT.out]; simp), if_pos]
              exact allB_false hjk (HQ.out.trans HE0.out.symm)), by first | exact HX.out.drewN _ | exact (HX.out.drewN _).drewN _⟩
          · go_wp2_with fail
            go_roundw
            case rel => exact ⟨j + 1, by omega, by go_num, allB_succ HJ.out (HQ.out.trans HE0.out.symm), by first | exact HX.out.drewN _ | exact (HX.out.drewN _).drewN _⟩
            case measure => simp [intOf]; omega
        · obtain rfl : j = k := by omega
          clear hj hjk
          go_wp2_with fail
          refine (rvertices_any A _ c l _ (HA.out.ext hx) HL.out (by omega) (fun q hq => ⟨by have := lens_of HT.out hq; omega, (lens_of HT.out hq).2⟩)).mono ?_
          rintro e w2 ⟨v, rfl, hv, he2⟩
          obtain ⟨V, cv, rfl, hsv, hcv, hcv'⟩ := hv.slice
          have HV := Lib.hid hsv; clear hsv hv
          go_wp2_with fail
          refine (rpcheck_any V _ cv (verts l) _ HV.out rfl).mono ?_
          rintro e w3 ⟨rfl, he3⟩
          go_wp2_with fail
          go_ret
          exact ⟨ret_int (by
            unfold ocheck
            rw [HL.out, if_neg (by omega), if_neg (by omega), if_neg (by rw [HT.out]; simp), if_neg (by rw [HJ.out]; decide)]), (hx.trans he2).trans he3⟩
end Go.Proofs.YtliijigdbpmpaaaGreat
