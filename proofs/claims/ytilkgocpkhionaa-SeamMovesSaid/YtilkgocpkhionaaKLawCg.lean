/- SeamCongruents returns true -/
import Derived.Test.YtilkgocpkhionaaKRCong
import Derived.Test.YtilkgocpkhionaaKAlive
/- the reference: garmentref22.Congruent -/
namespace Go.Proofs.Ytilkgocpkhionaa
open Go.RowKit
set_option maxRecDepth 100000 in
set_option maxHeartbeats 3200000 in
theorem rcongruent_any (A B : Option Addr) (n m ca cb : Nat) (a b : List Spot) (w : World) (ha : SpotsAt w A a) (hb : SpotsAt w B b) (hla : a.length = n) (hlb : b.length = m) (hn : n ≤ 1000) (hwb : WfL b) :
    Calls Try.prog 14 #[.slice A n ca, .slice B m cb] w (RetC w a b) := by
  have HA := Lib.hid ha; have HB := Lib.hid hb; have HLA := Lib.hid hla; have HLB := Lib.hid hlb; have HWB := Lib.hid hwb; clear ha hb hla hlb hwb
  by_cases hnm : n = m
  rotate_left
  · have HN : Hid (¬ (a.length = b.length ∧ a.length ≠ 0 ∧ cgN a b < 8)) := by show ¬ _; rw [HLA.out, HLB.out]; exact fun h => hnm h.1
    have hnb : ((n : Int) != m) = true := by simp; omega
    go_enter Try.func14, Try.ntmps14
    go_wp2_with fail
    refine bodyPost_ret (v := .tuple #[TV false 0, SV (0, 0), .bool false]) (by simp [results, Try.results14, go_sem]) rfl (retC_no HN.out ?_)
    exact ((Ext.refl _).alloc _).alloc _
  subst hnm
  by_cases hn0 : n = 0
  · have HN : Hid (¬ (a.length = b.length ∧ a.length ≠ 0 ∧ cgN a b < 8)) := by show ¬ _; rw [HLA.out]; exact fun h => h.2.1 hn0
    have hnb : ((n : Int) == 0) = true := by simp; omega
    have hnb' : ((n : Int) != n) = false := by simp
    go_enter Try.func14, Try.ntmps14
    go_wp2_with fail
    refine bodyPost_ret (v := .tuple #[TV false 0, SV (0, 0), .bool false]) (by simp [results, Try.results14, go_sem]) rfl (retC_no HN.out ?_)
    exact ((Ext.refl _).alloc _).alloc _
  have hnb : ((n : Int) == 0) = false := by simp; omega
  have hnb' : ((n : Int) != n) = false := by simp
  go_enter Try.func14, Try.ntmps14
  go_wp2_with fail
  clear hnb hnb'
  refine wp_at fun W0 hW0 => ?_
  have hR : Blk 31 W0 w.heap.size [.bool false, .int .i64 0] := by rw [hW0]; exact (Blk.new' rfl).ext ((Ext.refl _).alloc _)
  have hR2 : Blk 33 W0 (w.heap.size + 1) [.int .i64 0, .int .i64 0] := by rw [hW0]; exact Blk.new' (by simp)
  have hx0 : Ext w W0 := by rw [hW0]; exact ((Ext.refl _).alloc _).alloc _
  have HR := Lib.hid hR; have HR2 := Lib.hid hR2; have HX0 := Lib.hid hx0; clear hW0 hR hR2 hx0
  go_loopw [7] (fun i wr => ∃ p : Nat, p ≤ 8 ∧ i = .int .i64 p ∧ (∀ j, j < p → cgB a b j = false) ∧ Ext W0 wr) (fun i _ => 8 - (intOf i).toNat)
  case atStart => exact ⟨0, by omega, rfl, fun j hj => absurd hj (by omega), Ext.refl _⟩
  case round =>
    obtain ⟨p, hp, rfl, hall, hx⟩ := hrel
    have HALL := Lib.hid hall; have HX := Lib.hid hx; clear hall hx
    by_cases hlt : p < 8
    · have hlt' : (p : Int) < 8 := by omega
      obtain ⟨f0, hf0⟩ : ∃ f0, f0 = decide ((4 : Int) ≤ p) := ⟨_, rfl⟩
      obtain ⟨r, hr⟩ : ∃ r : Int, r = (p : Int) % 4 := ⟨_, rfl⟩
      have HIF : Hid (f0 = cgF p) := by show _ = _; rw [hf0]; unfold cgF; simp; omega
      have HIQ : Hid (r = cgQ p) := by show _ = _; rw [hr]; unfold cgQ; simp
      go_upto_region 7 with fail
      refine wp_at fun W1 hW1 => ?_
      rw [← hf0, ← hr] at hW1
      have hTb : Blk 31 W1 wr.heap.size [.bool f0, .int .i64 r] := by rw [hW1]; exact Blk.new' rfl
      have HX1 := Lib.hid (HX.out.trans (show Ext wr W1 by rw [hW1]; exact (Ext.refl _).alloc _))
      have HTB := Lib.hid hTb
      clear hW1 hTb hf0 hr
      obtain ⟨tb, htb⟩ : ∃ tb, tb = wr.heap.size := ⟨_, rfl⟩
      rw [← htb] at HTB ⊢
      have htl : W0.heap.size ≤ tb := by rw [htb]; exact HX.out.size
      clear htb
      obtain ⟨t0, t1⟩ := blk2 HTB.out
      go_wp2_with fail
      refine (rimage_any A B n ca cb f0 r (cgD a b p) a b _ (HA.out.ext (HX0.out.trans HX1.out)) (HB.out.ext (HX0.out.trans HX1.out)) HLA.out HLB.out hn (by omega) HWB.out (by unfold cgD cgI; rw [HIF.out, HIQ.out])).mono ?_
      rintro e w3 ⟨rfl, he3⟩
      have HTK : Hid (allB (tkF f0 r (cgD a b p) a b) n = cgB a b p) := by
        show _ = _
        unfold cgB
        rw [HLA.out, ← HIF.out, ← HIQ.out]
      rw [HTK.out]
      have HX3 := Lib.hid (HX1.out.trans he3); have HT3 := Lib.hid (HTB.out.ext he3)
      clear he3 t0 t1
      cases hc : cgB a b p
      · have HCF := Lib.hid hc; clear hc
        simp only [Bool.false_eq_true, if_false]
        go_wp2_with fail
        go_roundw
        case rel => exact ⟨p + 1, by omega, by go_num, fun j hj => by
          rcases Nat.lt_succ_iff_lt_or_eq.1 hj with h | h
          · exact HALL.out j h
          · subst h; exact HCF.out, HX3.out.alloc _⟩
        case measure => simp [intOf]; omega
      · have HCT := Lib.hid hc; clear hc
        simp only [if_true]
        have HCN := Lib.hid (cgN_at hlt HALL.out HCT.out)
        obtain ⟨D, hD⟩ : ∃ D, D = cgD a b p := ⟨_, rfl⟩
        rw [← hD]
        have HDD := Lib.hid hD; clear hD
        obtain ⟨D1, D2⟩ := D
        go_upto_region 9 with fail
        refine wp_at fun W4 hW4 => ?_
        have hx4 : Ext w3 W4 := by rw [hW4]; exact (Ext.refl _).alloc _
        have hDb : Blk 33 W4 w3.heap.size [.int .i64 D1, .int .i64 D2] := by rw [hW4]; exact Blk.new' rfl
        have HX4 := Lib.hid (HX3.out.trans hx4)
        have HT4 := Lib.hid (HT3.out.ext hx4)
        have HD4 := Lib.hid hDb
        clear hW4 hx4 hDb
        have HRr := Lib.hid (HR.out.ext HX4.out); have HR2r := Lib.hid (HR2.out.ext HX4.out)
        obtain ⟨r0, r1⟩ := blk2 HRr.out
        obtain ⟨q0, q1⟩ := blk2 HR2r.out
        have e0 := HRr.out.frozen 0
        have e1 := HRr.out.frozen 1
        have e2 := HR2r.out.frozen 0
        have e3 := HR2r.out.frozen 1
        obtain ⟨t0, t1⟩ := blk2 HT4.out
        obtain ⟨g0, g1⟩ := blk2 HD4.out
        have hw2 : w.heap.size + 1 < W0.heap.size := HR2.out.lt
        have hdl : W0.heap.size ≤ w3.heap.size := HX3.out.size
        obtain ⟨db, hdb⟩ : ∃ db, db = w3.heap.size := ⟨_, rfl⟩
        rw [← hdb] at g0 g1 hdl ⊢
        clear hdb
        have n1 : tb ≠ w.heap.size := by omega
        have n2 : tb ≠ w.heap.size + 1 := by omega
        have n3 : db ≠ w.heap.size := by omega
        have n4 : db ≠ w.heap.size + 1 := by omega
        go_wp2_with fail
        go_region
        all_goals
          go_wp2_with fail
          refine bodyPost_ret (v := .tuple #[TV f0 r, SV (D1, D2), .bool true]) (by simp [results, Try.results14, go_sem, r0, r1, q0, q1]) rfl ?_
          refine ⟨?_, ?_⟩
          · rw [if_pos ⟨by rw [HLA.out, HLB.out], by rw [HLA.out]; exact hn0, by rw [HCN.out]; omega⟩, HCN.out, ← HIF.out, ← HIQ.out, ← HDD.out]
          · repeat (first | exact HX0.out.trans HX4.out | refine Ext.drew ?_ | refine Ext.setCell ?_ (by simp) _)
    · obtain rfl : p = 8 := by omega
      have HN : Hid (¬ (a.length = b.length ∧ a.length ≠ 0 ∧ cgN a b < 8)) := by show ¬ _; rw [cgN_none HALL.out]; exact fun h => absurd h.2.2 (by omega)
      have HRr := Lib.hid (HR.out.ext HX.out); have HR2r := Lib.hid (HR2.out.ext HX.out)
      obtain ⟨r0, r1⟩ := blk2 HRr.out
      obtain ⟨q0, q1⟩ := blk2 HR2r.out
      have e0 := HRr.out.frozen 0
      have e1 := HRr.out.frozen 1
      have e2 := HR2r.out.frozen 0
      have e3 := HR2r.out.frozen 1
      go_wp2_with fail
      refine bodyPost_ret (v := .tuple #[TV false 0, SV (0, 0), .bool false]) (by simp [results, Try.results14, go_sem, r0, r1, q0, q1]) rfl (retC_no HN.out ?_)
      repeat (first | exact HX0.out.trans HX.out | refine Ext.drew ?_ | refine Ext.setCell ?_ (by simp) _)
end Go.Proofs.Ytilkgocpkhionaa
namespace Go.Proofs.Ytilkgocpkhionaa
open Go.RowKit
def eqT (a : Bool) (b : Int) (c : Bool) (d : Int) : Bool := a == c && b == d
@[go_sem high] theorem run_eql_turn (w : World) (a : Bool) (b : Int) (c : Bool) (d : Int) : (binOp .eql 31 (.agg #[.bool a, .int .i64 b]) (.agg #[.bool c, .int .i64 d])).run Try.prog w = .ok (.bool (eqT a b c d)) w := by
  simp only [eqT]
  by_cases h : a = c <;> by_cases h' : b = d <;> simp [go_sem, h, h']
theorem eqT_self (a : Bool) (b : Int) : eqT a b a b = true := by simp [eqT]
/- the answer, as three variables -/
theorem retC_form (a b : List Spot) : ∃ (f : Bool) (q : Int) (d : Spot) (o : Bool), (if a.length = b.length ∧ a.length ≠ 0 ∧ cgN a b < 8 then Value.tuple #[TV (cgF (cgN a b)) (cgQ (cgN a b)), SV (cgD a b (cgN a b)), .bool true] else .tuple #[TV false 0, SV (0, 0), .bool false]) = .tuple #[TV f q, SV d, .bool o] := by
  split
  · exact ⟨_, _, _, _, rfl⟩
  · exact ⟨_, _, _, _, rfl⟩
set_option maxRecDepth 100000 in
set_option maxHeartbeats 1600000 in
theorem congruentsL_any (A B : Option Addr) (n m ca cb : Nat) (a b : List Spot) (w : World) (ha : SpotsAt w A a) (hb : SpotsAt w B b) (hla : a.length = n) (hlb : b.length = m) (hwb : WfL b) :
    Calls Try.prog 4 #[.slice A n ca, .slice B m cb] w fun e w' => e = .returned (.bool true) ∧ Ext w w' := by
  have HA := Lib.hid ha; have HB := Lib.hid hb; have HLA := Lib.hid hla; have HLB := Lib.hid hlb; have HWB := Lib.hid hwb; clear ha hb hla hlb hwb
  by_cases h1 : 60 < n
  · go_enter Try.func4, Try.ntmps4
    go_wp2_with fail
    refine (alive_any _).mono ?_
    rintro e w3 ⟨rfl, he3⟩
    go_wp2_with fail
    go_ret
    exact ⟨rfl, he3⟩
  by_cases h2 : 60 < m
  · go_enter Try.func4, Try.ntmps4
    go_wp2_with fail
    refine (alive_any _).mono ?_
    rintro e w3 ⟨rfl, he3⟩
    go_wp2_with fail
    go_ret
    exact ⟨rfl, he3⟩
  go_enter Try.func4, Try.ntmps4
  go_wp2_with fail
  refine (congruent_any A B n m ca cb a b _ HA.out HB.out HLA.out HLB.out (by omega)).mono ?_
  rintro e w1 ⟨rfl, he1⟩
  obtain ⟨f, q, d, o, hV⟩ := retC_form a b
  rw [hV]
  have HV := Lib.hid hV; clear hV
  obtain ⟨dx, dy⟩ := d
  have HX1 := Lib.hid he1; clear he1
  have HXa : Hid (Ext w1 ((w1.alloc (.cells #[.bool f, .int .i64 q] 31)).alloc (.cells #[.int .i64 dx, .int .i64 dy] 33))) := ((Ext.refl _).alloc _).alloc _
  go_wp2_with fail
  refine (rcongruent_any A B n m ca cb a b _ (HA.out.ext (HX1.out.trans HXa.out)) (HB.out.ext (HX1.out.trans HXa.out)) HLA.out HLB.out (by omega) HWB.out).mono ?_
  rintro e w2 ⟨rfl, he2⟩
  rw [HV.out]
  have HT : Hid (Blk 31 w2 w1.heap.size [.bool f, .int .i64 q]) := ((Blk.new' rfl).ext ((Ext.refl _).alloc _)).ext he2
  have HD : Hid (Blk 33 w2 (w1.heap.size + 1) [.int .i64 dx, .int .i64 dy]) := (Blk.new' (by simp)).ext he2
  have HX2 := Lib.hid ((HX1.out.trans HXa.out).trans he2)
  clear he2
  obtain ⟨t0, t1⟩ := blk2 HT.out
  obtain ⟨d0, d1⟩ := blk2 HD.out
  have hl1 : w1.heap.size < w2.heap.size := HT.out.lt
  have hl2 : w1.heap.size + 1 < w2.heap.size := HD.out.lt
  have s1 := eqT_self f q
  have s2 := eqS_self dx dy
  have s3 : (o == o) = true := by simp
  go_wp2_with fail
  refine (alive_any _).mono ?_
  rintro e w3 ⟨rfl, he3⟩
  go_wp2_with fail
  go_ret
  exact ⟨rfl, (HX2.out.trans (((Ext.refl _).alloc _).alloc _)).trans he3⟩
end Go.Proofs.Ytilkgocpkhionaa
