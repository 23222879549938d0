/- the reference: garmentref22.image -/
import Derived.Deep.Cut
import Derived.Test.YtilkgocpkhionaaKCongP
/- the reference: garmentref12.Norm, Apply; garmentref10.far, Far, Check -/
namespace Go.Proofs.Ytilkgocpkhionaa
open Go.RowKit
theorem tmod4 (q : Int) : (q.tmod 4 < 0 → q.tmod 4 + 4 = q % 4) ∧ (¬ q.tmod 4 < 0 → q.tmod 4 = q % 4) ∧ -4 < q.tmod 4 ∧ q.tmod 4 < 4 := by
  rcases Int.le_total 0 q with h | h
  · rw [Int.tmod_eq_emod_of_nonneg h]; omega
  · have e : q.tmod 4 = -((-q) % 4) := by
      have := Int.neg_tmod q 4
      rw [Int.tmod_eq_emod_of_nonneg (show 0 ≤ -q by omega)] at this
      omega
    rw [e]; omega
set_option maxRecDepth 100000 in
set_option maxHeartbeats 800000 in
theorem rnorm_any (f : Bool) (q : Int) (w : World) :
    Calls Try.prog 39 #[TV f q] w fun e w' => e = .returned (TV f (q % 4)) ∧ Ext w w' := by
  obtain ⟨h1, h2, h3, h4⟩ := tmod4 q
  obtain ⟨r, hr⟩ : ∃ r, r = q % 4 := ⟨_, rfl⟩
  obtain ⟨t, ht⟩ : ∃ t, t = q.tmod 4 := ⟨_, rfl⟩
  have HR := Lib.hid hr
  rw [← hr, ← ht] at h1 h2
  rw [← ht] at h3 h4
  have HT := Lib.hid ht
  have ht' : q.tmod 4 = t := ht.symm
  clear hr ht
  by_cases hq : t < 0
  · have e := h1 hq
    have HE := Lib.hid e
    clear h1 h2 e
    go_enter Try.func39, Try.ntmps39
    go_wp2_with fail
    refine bodyPost_ret (v := TV f (q % 4)) (by rw [← HR.out, ← HE.out]; simp [results, Try.results39, go_sem]) rfl ⟨rfl, ?_⟩
    exact ((Ext.refl _).alloc _).alloc _
  · have e := h2 hq
    have HE := Lib.hid e
    clear h1 h2 e
    go_enter Try.func39, Try.ntmps39
    go_wp2_with fail
    refine bodyPost_ret (v := TV f (q % 4)) (by rw [← HR.out, ← HE.out]; simp [results, Try.results39, go_sem]) rfl ⟨rfl, ?_⟩
    exact ((Ext.refl _).alloc _).alloc _
set_option maxRecDepth 100000 in
set_option maxHeartbeats 1600000 in
theorem rapply_any (f : Bool) (q : Int) (s : Spot) (w : World) :
    Calls Try.prog 23 #[TV f q, SV s] w fun e w' => e = .returned (SV (applyT f q s)) ∧ Ext w w' := by
  obtain ⟨x, y⟩ := s
  obtain ⟨r, hr⟩ : ∃ r : Nat, q % 4 = r := ⟨(q % 4).toNat, by omega⟩
  have hr4 : r < 4 := by omega
  have HR : Hid ((q % 4).toNat = r) := by show (q % 4).toNat = r; omega
  have HRq := Lib.hid hr
  clear hr
  obtain ⟨s0, hs0⟩ : ∃ s0, s0 = flipS f (x, y) := ⟨_, rfl⟩
  have HS0 := Lib.hid hs0; clear hs0
  go_enter Try.func23, Try.ntmps23
  go_upto_if 10 with fail
  refine wp_at fun W0 hW0 => ?_
  have HT : Hid (Blk 31 W0 w.heap.size [.bool f, .int .i64 q]) := by show Blk _ _ _ _; rw [hW0]; exact (((Blk.new' rfl).ext ((Ext.refl _).alloc _)).ext ((Ext.refl _).alloc _)).ext ((Ext.refl _).alloc _)
  have HZ : Hid (Blk 33 W0 (w.heap.size + 1 + 1) [.int .i64 0, .int .i64 0]) := by show Blk _ _ _ _; rw [hW0]; exact (Blk.new' (by simp)).ext ((Ext.refl _).alloc _)
  have HO : Hid (Blk 33 W0 (w.heap.size + 1 + 1 + 1) [.int .i64 x, .int .i64 y]) := by show Blk _ _ _ _; rw [hW0]; exact Blk.new' (by simp)
  have HX : Hid (Ext w W0) := by show Ext _ _; rw [hW0]; exact ((((Ext.refl _).alloc _).alloc _).alloc _).alloc _
  clear hW0
  go_cut [] from 9 (fun wc => Blk 31 wc w.heap.size [.bool f, .int .i64 q] ∧ Blk 33 wc (w.heap.size + 1 + 1) [.int .i64 0, .int .i64 0] ∧ Blk 33 wc (w.heap.size + 1 + 1 + 1) [.int .i64 s0.1, .int .i64 s0.2] ∧ Ext w wc)
  case first =>
    obtain ⟨o0, o1⟩ := blk2 HO.out
    have fo0 := HO.out.frozen 0
    cases f
    · go_wp2_with fail
      go_meet
      case rel => exact ⟨HT.out, HZ.out, by rw [HS0.out]; exact HO.out, HX.out⟩
    · go_wp2_with fail
      go_meet
      case rel => exact ⟨HT.out.other (by simp; omega) _, HZ.out.other (by simp) _, by rw [HS0.out]; exact HO.out.set 0 _, HX.out.setCell (by simp; omega) _⟩
  case rest =>
    obtain ⟨hT, hZ, hO, hx⟩ := hcut
    obtain ⟨t0, t1⟩ := blk2 hT
    have HT1 := Lib.hid hT; have HZ1 := Lib.hid hZ; have HO1 := Lib.hid hO; have HX1 := Lib.hid hx
    clear hT hZ hO hx HT HZ HO HX
    go_wp2_with fail
    refine (rnorm_any f q _).mono ?_
    rintro e w2 ⟨rfl, he2⟩
    rw [HRq.out]
    have HZ2 := Lib.hid (HZ1.out.ext he2); have HO2 := Lib.hid (HO1.out.ext he2); have HX2 := Lib.hid (HX1.out.trans he2)
    clear he2 t0 t1
    go_wp2_with fail
    refine wp_at fun W3 hW3 => ?_
    have hx3 : Ext w2 W3 := by rw [hW3]; exact (Ext.refl _).alloc _
    have HN : Hid (Blk 31 W3 w2.heap.size [.bool f, .int .i64 (r : Int)]) := by show Blk _ _ _ _; rw [hW3]; exact Blk.new' rfl
    have hZ3 := HZ2.out.ext hx3
    have hO3 := HO2.out.ext hx3
    have hx3' := HX2.out.trans hx3
    have hl2 : w.heap.size + 1 + 1 + 1 < w2.heap.size := HO2.out.lt
    clear hW3 hx3
    go_loopw [7] (fun i wr => ∃ k : Nat, k ≤ r ∧ i = .int .i64 k ∧ Blk 31 wr w2.heap.size [.bool f, .int .i64 (r : Int)] ∧ Blk 33 wr (w.heap.size + 1 + 1) [.int .i64 0, .int .i64 0] ∧ Blk 33 wr (w.heap.size + 1 + 1 + 1) [.int .i64 (quarts k s0).1, .int .i64 (quarts k s0).2] ∧ Ext w wr) (fun i _ => r - (intOf i).toNat)
    case atStart => exact ⟨0, Nat.zero_le _, rfl, HN.out, hZ3, hO3, hx3'⟩
    case round =>
      clear hZ3 hO3 hx3'
      obtain ⟨k, hk, rfl, hN, hZ, hO, hx⟩ := hrel
      obtain ⟨n0, n1⟩ := blk2 hN
      obtain ⟨o0, o1⟩ := blk2 hO
      have fo0 := hO.frozen 0
      have fo1 := hO.frozen 1
      have HN' := Lib.hid hN; have HZ' := Lib.hid hZ; have HO' := Lib.hid hO; have HX' := Lib.hid hx
      clear hN hZ hO hx
      by_cases hlt : k < r
      · go_wp2_with fail
        go_roundw
        case rel =>
          refine ⟨k + 1, by omega, by go_num, (HN'.out.other (by simp; omega) _).other (by simp; omega) _, (HZ'.out.other (by simp) _).other (by simp) _, ?_, (HX'.out.setCell (by simp; omega) _).setCell (by simp; omega) _⟩
          have h := (HO'.out.set 0 (.int .i64 (wrap64 (-(quarts k s0).2)))).set 1 (.int .i64 (quarts k s0).1)
          exact h
        case measure => simp [intOf]; omega
      · obtain rfl : k = r := by omega
        obtain ⟨z0, z1⟩ := blk2 HZ'.out
        have fz0 := HZ'.out.frozen 0
        have fz1 := HZ'.out.frozen 1
        go_wp2_with fail
        refine bodyPost_ret (v := SV (applyT f q (x, y))) (by
          have e : applyT f q (x, y) = quarts k s0 := by unfold applyT; rw [HR.out, HS0.out]
          rw [e]
          simp [results, Try.results23, go_sem, z0, z1]) rfl ⟨rfl, ?_⟩
        exact (HX'.out.setCell (by simp; omega) _).setCell (by simp; omega) _
end Go.Proofs.Ytilkgocpkhionaa
namespace Go.Proofs.Ytilkgocpkhionaa
open Go.RowKit
/- the first vertex always fits -/
theorem tk_zero {f : Bool} {q : Int} {a b : List Spot} (hb : wfS (gS b 0)) {d : Spot} (hd : d = (wrap64 ((gS b 0).1 - (applyT f q (gS a 0)).1), wrap64 ((gS b 0).2 - (applyT f q (gS a 0)).2))) : tkF f q d a b 0 = true := by
  rw [tkF_iff, hd]
  unfold imgS
  obtain ⟨h1, h2, h3, h4⟩ := hb
  generalize applyT f q (gS a 0) = p
  simp only [wrap64]
  refine Prod.ext ?_ ?_ <;> simp only <;> omega
def RetIm (w : World) (f : Bool) (q : Int) (d : Spot) (a b : List Spot) (n : Nat) (e : Ending) (w' : World) : Prop :=
  e = .returned (.tuple (if allB (tkF f q d a b) n = true then #[SV d, .bool true] else #[SV (0, 0), .bool false])) ∧ Ext w w'
set_option maxRecDepth 100000 in
set_option maxHeartbeats 3200000 in
theorem rimage_any (A B : Option Addr) (n ca cb : Nat) (f : Bool) (q : Int) (d : Spot) (a b : List Spot) (w : World) (ha : SpotsAt w A a) (hb : SpotsAt w B b) (hla : a.length = n) (hlb : b.length = n) (hn : n ≤ 1000) (hn0 : 0 < n) (hwb : WfL b) (hd : d = (wrap64 ((gS b 0).1 - (applyT f q (gS a 0)).1), wrap64 ((gS b 0).2 - (applyT f q (gS a 0)).2))) :
    Calls Try.prog 29 #[.slice A n ca, .slice B n cb, TV f q] w (RetIm w f q d a b n) := by
  have HT0 := Lib.hid (tk_zero (f := f) (q := q) (a := a) (hwb 0 (by omega)) hd)
  have HA := Lib.hid ha; have HB := Lib.hid hb; have HLA := Lib.hid hla; have HLB := Lib.hid hlb; clear ha hb hla hlb hwb
  go_enter Try.func29, Try.ntmps29
  go_wp2_with fail
  refine wp_at fun W1 hW1 => ?_
  have hTb : Blk 31 W1 w.heap.size [.bool f, .int .i64 q] := by rw [hW1]; exact (Blk.new' rfl).ext ((Ext.refl _).alloc _)
  have hRb : Blk 33 W1 (w.heap.size + 1) [.int .i64 0, .int .i64 0] := by rw [hW1]; exact Blk.new' (by simp)
  have hx1 : Ext w W1 := by rw [hW1]; exact ((Ext.refl _).alloc _).alloc _
  have HX1 := Lib.hid hx1; have HTB := Lib.hid hTb; have HRB := Lib.hid hRb; clear hW1 hx1 hTb hRb
  obtain ⟨tb, htb⟩ : ∃ tb, tb = w.heap.size := ⟨_, rfl⟩
  obtain ⟨rb, hrb⟩ : ∃ rb, rb = w.heap.size + 1 := ⟨_, rfl⟩
  have htl : tb < rb := by omega
  have HRL : Hid (w.heap.size ≤ rb) := by show _ ≤ _; omega
  rw [← hrb] at HRB ⊢
  rw [← htb] at HTB ⊢
  clear htb hrb
  obtain ⟨ba, oa, hA, c0, c1⟩ := (HA.out.ext HX1.out).g (k := 0) (by rw [HLA.out]; omega)
  subst hA
  simp only [Nat.zero_mul, Nat.add_zero] at c0 c1
  obtain ⟨I, hI⟩ : ∃ I, I = applyT f q (gS a 0) := ⟨_, rfl⟩
  rw [← hI] at hd
  have HDe := Lib.hid hd; clear hd
  have HI := Lib.hid hI; clear hI
  go_cut [8] from 12 to 16 (fun pt wc => ∃ fb, pt = .pointer (some ⟨fb, 0, none⟩) ∧ Blk 33 wc fb [.int .i64 I.1, .int .i64 I.2] ∧ Ext W1 wc)
  case first =>
    obtain ⟨t0, t1⟩ := blk2 HTB.out
    have keep : ∀ W2 : World, Ext W1 W2 → (Ext W1 W2 ∧ W2.cell? ⟨tb, 0, none⟩ = some (.bool f) ∧ W2.cell? ⟨tb, 1, none⟩ = some (.int .i64 q) ∧ W2.cell? ⟨ba, oa, none⟩ = some (.int .i64 (gS a 0).1) ∧ W2.cell? ⟨ba, oa + 1, none⟩ = some (.int .i64 (gS a 0).2)) := fun W2 hx => ⟨hx, hx.cell t0, hx.cell t1, hx.cell c0, hx.cell c1⟩
    have KEEP := Lib.hid keep; clear keep t0 t1 c0 c1
    have HAP : Hid (∀ W : World, Calls Try.prog 23 #[TV f q, SV (gS a 0)] W fun e w' => e = .returned (SV I) ∧ Ext W w') := fun W => by rw [HI.out]; exact rapply_any f q (gS a 0) W
    go_region_held3 (fun W => Ext W1 W ∧ W.cell? ⟨tb, 0, none⟩ = some (.bool f) ∧ W.cell? ⟨tb, 1, none⟩ = some (.int .i64 q) ∧ W.cell? ⟨ba, oa, none⟩ = some (.int .i64 (gS a 0).1) ∧ W.cell? ⟨ba, oa + 1, none⟩ = some (.int .i64 (gS a 0).2))
      (first | (with_reducible exact KEEP.out _ (Ext.setCell (Ext.setCell hx2 (p := ⟨W1.heap.size, 0, none⟩) (Nat.le_refl _) _) (p := ⟨W1.heap.size, 1, none⟩) (Nat.le_refl _) _)) | (with_reducible assumption) | (with_reducible exact KEEP.out _ (Ext.drew (Ext.refl _))) | (with_reducible exact KEEP.out _ (Ext.drew (Ext.alloc (Ext.refl _) _))) | (with_reducible exact KEEP.out _ hx2) | (with_reducible exact KEEP.out _ (Ext.alloc hx2 _)) | fail)
      (first
        | (go_at_call 23; (with_reducible refine (HAP.out W1.drew).mono ?_); rintro e w2 ⟨rfl, he2⟩; have hx2 : Ext W1 w2 := (Ext.drew (Ext.refl _)).trans he2)
        | (go_at_call 23; (with_reducible refine (HAP.out (W1.alloc (.cells #[.int .i64 0, .int .i64 0] 33)).drew).mono ?_); rintro e w2 ⟨rfl, he2⟩; have hx2 : Ext W1 w2 := (Ext.drew (Ext.alloc (Ext.refl _) _)).trans he2; have hB1 : Blk 33 w2 W1.heap.size [.int .i64 0, .int .i64 0] := Blk.ext (Blk.ext (Blk.new' rfl) (Ext.drew (Ext.refl _))) he2; obtain ⟨s0, s1⟩ := blk2 hB1; have e0 := hB1.frozen 0; have e1 := hB1.frozen 1; have HB1 := Lib.hid hB1; clear hB1)
        | fail)
    all_goals
      go_wp2_with fail
      go_meet
    case rel => exact ⟨w2.heap.size, rfl, Blk.new' rfl, hx2.alloc _⟩
    case rel => exact ⟨W1.heap.size, rfl, (HB1.out.set 0 (.int .i64 I.1)).set 1 (.int .i64 I.2), (hx2.setCell (Nat.le_refl _) _).setCell (Nat.le_refl _) _⟩
  case rest =>
    obtain ⟨fb, hfb, hBf, hxc⟩ := hcut
    subst hfb
    clear c0 c1
    have HBF := Lib.hid hBf; have HXz := Lib.hid (HX1.out.trans hxc); have HTz := Lib.hid (HTB.out.ext hxc); have HRz := Lib.hid (HRB.out.ext hxc); clear hBf hxc
    obtain ⟨wz, rfl⟩ : ∃ wz : World, wz = wc := ⟨_, rfl⟩
    obtain ⟨bb, ob, hB, d0, d1⟩ := (HB.out.ext HXz.out).g (k := 0) (by rw [HLB.out]; omega)
    subst hB
    simp only [Nat.zero_mul, Nat.add_zero] at d0 d1
    obtain ⟨f1, f2⟩ := blk2 HBF.out
    obtain ⟨D1, hD1⟩ : ∃ D1, IntKind.i64.wrap ((gS b 0).1 - I.1) = D1 := ⟨_, rfl⟩
    obtain ⟨D2, hD2⟩ : ∃ D2, IntKind.i64.wrap ((gS b 0).2 - I.2) = D2 := ⟨_, rfl⟩
    have HDD : Hid (d = (D1, D2)) := by
      show _ = _
      rw [HDe.out, ← hD1, ← hD2, IntWalk.i64_left, IntWalk.i64_left]
    go_upto_region 2 with fail
    go_cut [9] from 17 to 31 (fun pt wc => ∃ db, pt = .pointer (some ⟨db, 0, none⟩) ∧ Blk 33 wc db [.int .i64 D1, .int .i64 D2] ∧ Ext wz wc ∧ wz.heap.size ≤ db)
    case first =>
      have keep : ∀ W2 : World, Ext wz W2 → (Ext wz W2 ∧ W2.cell? ⟨fb, 0, none⟩ = some (.int .i64 I.1) ∧ W2.cell? ⟨fb, 1, none⟩ = some (.int .i64 I.2) ∧ W2.cell? ⟨bb, ob, none⟩ = some (.int .i64 (gS b 0).1) ∧ W2.cell? ⟨bb, ob + 1, none⟩ = some (.int .i64 (gS b 0).2)) := fun W2 hx => ⟨hx, hx.cell f1, hx.cell f2, hx.cell d0, hx.cell d1⟩
      have KEEP := Lib.hid keep; clear keep f1 f2 d0 d1
      go_region_held3 (fun W => Ext wz W ∧ W.cell? ⟨fb, 0, none⟩ = some (.int .i64 I.1) ∧ W.cell? ⟨fb, 1, none⟩ = some (.int .i64 I.2) ∧ W.cell? ⟨bb, ob, none⟩ = some (.int .i64 (gS b 0).1) ∧ W.cell? ⟨bb, ob + 1, none⟩ = some (.int .i64 (gS b 0).2))
        (first | (with_reducible assumption) | (with_reducible exact KEEP.out _ (Ext.drew (Ext.refl _))) | (with_reducible exact KEEP.out _ (Ext.drew (Ext.alloc (Ext.refl _) _))) | fail)
        (first | fail)
      all_goals
        go_wp2_with fail
        go_meet
      all_goals exact ⟨_, rfl, (Blk.new' rfl).ext ((Ext.refl _).drew), ((Ext.refl _).alloc _).drew, Nat.le_refl _⟩
    case rest =>
      obtain ⟨db, hdb, hBd, hxc, hdl0⟩ := hcut
      subst hdb
      clear f1 f2 d0 d1 hD1 hD2
      have HBD := Lib.hid hBd; have HXy := Lib.hid (HXz.out.trans hxc); have HTy := Lib.hid (HTz.out.ext hxc); have HRy := Lib.hid (HRz.out.ext hxc); clear hBd hxc
      obtain ⟨wy, rfl⟩ : ∃ wy : World, wy = wc := ⟨_, rfl⟩
      go_wp2_with fail
      have HKL : Hid (rb < wy.heap.size ∧ w.heap.size ≤ rb) := ⟨HRy.out.lt, HRL.out⟩
      go_loopw [10] (fun i wr => ∃ k : Nat, 1 ≤ k ∧ k ≤ n ∧ i = .int .i64 k ∧ allB (tkF f q d a b) k = true ∧ Ext wy wr) (fun i _ => n - (intOf i).toNat)
      case atStart => exact ⟨1, Nat.le_refl _, hn0, rfl, by show (true && tkF f q d a b 0) = true; rw [HT0.out]; rfl, Ext.refl _⟩
      case round =>
        obtain ⟨k, hk1, hk, rfl, ht, hx⟩ := hrel
        have HAL := Lib.hid ht; have HX := Lib.hid hx; clear ht hx
        obtain ⟨wq, rfl⟩ : ∃ wq : World, wq = wr := ⟨_, rfl⟩
        have HXq := Lib.hid (HXy.out.trans HX.out)
        by_cases hlt : k < n
        · obtain ⟨ba', oa', hA, c0, c1⟩ := (HA.out.ext HXq.out).g (k := k) (by rw [HLA.out]; exact hlt)
          injection hA with hA
          injection hA with hA1 hA2
          subst hA1; subst hA2
          have HTq := Lib.hid (HTy.out.ext HX.out)
          obtain ⟨I2, hI2⟩ : ∃ I, I = applyT f q (gS a k) := ⟨_, rfl⟩
          have HI2 := Lib.hid hI2; clear hI2
          go_upto_region 6 with fail
          go_cut [11] from 38 to 43 (fun pt wc => ∃ pb, pt = .pointer (some ⟨pb, 0, none⟩) ∧ Blk 33 wc pb [.int .i64 I2.1, .int .i64 I2.2] ∧ Ext wq wc)
          case first =>
            obtain ⟨t0, t1⟩ := blk2 HTq.out
            have keep : ∀ W2 : World, Ext wq W2 → (Ext wq W2 ∧ W2.cell? ⟨tb, 0, none⟩ = some (.bool f) ∧ W2.cell? ⟨tb, 1, none⟩ = some (.int .i64 q) ∧ W2.cell? ⟨ba, oa + k * 2, none⟩ = some (.int .i64 (gS a k).1) ∧ W2.cell? ⟨ba, oa + k * 2 + 1, none⟩ = some (.int .i64 (gS a k).2)) := fun W2 hx => ⟨hx, hx.cell t0, hx.cell t1, hx.cell c0, hx.cell c1⟩
            have KEEP := Lib.hid keep; clear keep t0 t1 c0 c1
            have HAP : Hid (∀ W : World, Calls Try.prog 23 #[TV f q, SV (gS a k)] W fun e w' => e = .returned (SV I2) ∧ Ext W w') := fun W => by rw [HI2.out]; exact rapply_any f q (gS a k) W
            go_region_held3 (fun W => Ext wq W ∧ W.cell? ⟨tb, 0, none⟩ = some (.bool f) ∧ W.cell? ⟨tb, 1, none⟩ = some (.int .i64 q) ∧ W.cell? ⟨ba, oa + k * 2, none⟩ = some (.int .i64 (gS a k).1) ∧ W.cell? ⟨ba, oa + k * 2 + 1, none⟩ = some (.int .i64 (gS a k).2))
              (first | (with_reducible exact KEEP.out _ (Ext.setCell (Ext.setCell hx2 (p := ⟨wq.heap.size, 0, none⟩) (Nat.le_refl _) _) (p := ⟨wq.heap.size, 1, none⟩) (Nat.le_refl _) _)) | (with_reducible assumption) | (with_reducible exact KEEP.out _ (Ext.drew (Ext.refl _))) | (with_reducible exact KEEP.out _ (Ext.drew (Ext.alloc (Ext.refl _) _))) | (with_reducible exact KEEP.out _ hx2) | (with_reducible exact KEEP.out _ (Ext.alloc hx2 _)) | fail)
              (first
                | (go_at_call 23; (with_reducible refine (HAP.out wq.drew).mono ?_); rintro e w2 ⟨rfl, he2⟩; have hx2 : Ext wq w2 := (Ext.drew (Ext.refl _)).trans he2)
                | (go_at_call 23; (with_reducible refine (HAP.out (wq.alloc (.cells #[.int .i64 0, .int .i64 0] 33)).drew).mono ?_); rintro e w2 ⟨rfl, he2⟩; have hx2 : Ext wq w2 := (Ext.drew (Ext.alloc (Ext.refl _) _)).trans he2; have hB1 : Blk 33 w2 wq.heap.size [.int .i64 0, .int .i64 0] := Blk.ext (Blk.ext (Blk.new' rfl) (Ext.drew (Ext.refl _))) he2; obtain ⟨s0, s1⟩ := blk2 hB1; have e0 := hB1.frozen 0; have e1 := hB1.frozen 1; have HB1 := Lib.hid hB1; clear hB1)
                | fail)
            all_goals
              go_wp2_with fail
              go_meet
            case rel => exact ⟨w2.heap.size, rfl, Blk.new' rfl, hx2.alloc _⟩
            case rel => exact ⟨wq.heap.size, rfl, (HB1.out.set 0 (.int .i64 I2.1)).set 1 (.int .i64 I2.2), (hx2.setCell (Nat.le_refl _) _).setCell (Nat.le_refl _) _⟩
          case rest =>
            obtain ⟨pb, hpb, hBp, hxc⟩ := hcut
            subst hpb
            clear c0 c1
            have HXc := Lib.hid (HX.out.trans hxc)
            obtain ⟨wp2, rfl⟩ : ∃ wp2 : World, wp2 = wc := ⟨_, rfl⟩
            obtain ⟨i0, i1⟩ := blk2 hBp
            obtain ⟨d0, d1⟩ := blk2 (HBD.out.ext HXc.out)
            obtain ⟨bb', ob', hB, g0, g1⟩ := (HB.out.ext (HXy.out.trans HXc.out)).g (k := k) (by rw [HLB.out]; exact hlt)
            injection hB with hB
            injection hB with hB1 hB2
            subst hB1; subst hB2
            clear hBp hxc
            have HF : Hid (tkF f q d a b k = ((wrap64 (I2.1 + D1) == (gS b k).1) && (wrap64 (I2.2 + D2) == (gS b k).2))) := by
              show _ = _
              unfold tkF; rw [HI2.out, HDD.out]
            have z0 := fun z : After wp2 => After.cell i0 z
            have z1 := fun z : After wp2 => After.cell i1 z
            have z2 := fun z : After wp2 => After.cell d0 z
            have z3 := fun z : After wp2 => After.cell d1 z
            have z4 := fun z : After wp2 => After.cell g0 z
            have z5 := fun z : After wp2 => After.cell g1 z
            go_upto_region 7 with fail
            cases hb1 : (wrap64 (I2.1 + D1) != (gS b k).1)
            · have H1 : Hid ((wrap64 (I2.1 + D1) == (gS b k).1) = true) := by show _ = _; simpa using hb1
              cases hb2 : (wrap64 (I2.2 + D2) != (gS b k).2)
              · have H2 : Hid ((wrap64 (I2.2 + D2) == (gS b k).2) = true) := by show _ = _; simpa using hb2
                refine region_ext (by kernel_rfl) (by kernel_rfl) ?_
                repeat (first | go_big_quiet_step (fail) | (go_big_quiet_want; go_simp; go_big_quiet_on))
                refine wpQuiet_nil ?_
                rintro w3 ⟨⟨_, he⟩, rfl⟩
                clear z0 z1 z2 z3 z4 z5 hb1 hb2 i0 i1 d0 d1 g0 g1
                go_wp2_with fail
                go_roundw
                case rel => exact ⟨k + 1, by omega, by omega, by go_num, allB_succ HAL.out (by rw [HF.out, H1.out, H2.out]; rfl), HXc.out.trans he⟩
                case measure => simp [intOf]; omega
              · have H2 : Hid ((wrap64 (I2.2 + D2) == (gS b k).2) = false) := by show _ = _; simpa using hb2
                have HNO := Lib.hid (allB_false (f := tkF f q d a b) (k := k) hlt (by rw [HF.out, H1.out, H2.out]; rfl))
                refine region_ext (by kernel_rfl) (by kernel_rfl) ?_
                repeat (first | go_big_quiet_step (fail) | (go_big_quiet_want; go_simp; go_big_quiet_on))
                refine wpQuiet_nil ?_
                rintro w3 ⟨⟨_, he⟩, rfl⟩
                clear z0 z1 z2 z3 z4 z5 hb1 hb2 i0 i1 d0 d1 g0 g1
                have HR3 := Lib.hid (HRy.out.ext (HXc.out.trans he))
                have HX3 := Lib.hid (HXy.out.trans (HXc.out.trans he)); clear he
                obtain ⟨r0, r1⟩ := blk2 HR3.out
                have e0 := HR3.out.frozen 0
                have e1 := HR3.out.frozen 1
                go_wp2_with fail
                refine bodyPost_ret (v := .tuple #[SV (0, 0), .bool false]) (by simp [results, Try.results29, go_sem, r0, r1]) rfl ⟨by rw [HNO.out]; rfl, ?_⟩
                exact (HX3.out.setCell HKL.out.2 _).setCell HKL.out.2 _
            · have H1 : Hid ((wrap64 (I2.1 + D1) == (gS b k).1) = false) := by show _ = _; simpa using hb1
              have HNO := Lib.hid (allB_false (f := tkF f q d a b) (k := k) hlt (by rw [HF.out, H1.out]; rfl))
              refine region_ext (by kernel_rfl) (by kernel_rfl) ?_
              repeat (first | go_big_quiet_step (fail) | (go_big_quiet_want; go_simp; go_big_quiet_on))
              refine wpQuiet_nil ?_
              rintro w3 ⟨⟨_, he⟩, rfl⟩
              clear z0 z1 z2 z3 z4 z5 hb1 i0 i1 d0 d1 g0 g1
              have HR3 := Lib.hid (HRy.out.ext (HXc.out.trans he))
              have HX3 := Lib.hid (HXy.out.trans (HXc.out.trans he)); clear he
              obtain ⟨r0, r1⟩ := blk2 HR3.out
              have e0 := HR3.out.frozen 0
              have e1 := HR3.out.frozen 1
              go_wp2_with fail
              refine bodyPost_ret (v := .tuple #[SV (0, 0), .bool false]) (by simp [results, Try.results29, go_sem, r0, r1]) rfl ⟨by rw [HNO.out]; rfl, ?_⟩
              exact (HX3.out.setCell HKL.out.2 _).setCell HKL.out.2 _
        · obtain rfl : k = n := by omega
          have HR3 := Lib.hid (HRy.out.ext HX.out)
          obtain ⟨r0, r1⟩ := blk2 HR3.out
          have e0 := HR3.out.frozen 0
          have e1 := HR3.out.frozen 1
          obtain ⟨d0, d1⟩ := blk2 (HBD.out.ext HX.out)
          have hne : db ≠ rb := by have := HRz.out.lt; omega
          go_wp2_with fail
          refine bodyPost_ret (v := .tuple #[SV (D1, D2), .bool true]) (by simp [results, Try.results29, go_sem, r0, r1]) rfl ⟨by rw [HAL.out, HDD.out]; rfl, ?_⟩
          exact (HXq.out.setCell HKL.out.2 _).setCell HKL.out.2 _
end Go.Proofs.Ytilkgocpkhionaa
