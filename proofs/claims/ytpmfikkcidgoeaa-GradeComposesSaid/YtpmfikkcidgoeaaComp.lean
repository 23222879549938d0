/- turn.Norm, Compose, Inverse; garmentref21.Same on equal pieces -/
import Derived.Test.YtpmfikkcidgoeaaLawBk
namespace Go.Proofs.Ytpmfikkcidgoeaa
open Go.RowKit
@[go_sem high] theorem run_neq_notch (w : World) (a b c d : Int) : (binOp .neq 54 (.agg #[.int .i64 a, .int .i64 b]) (.agg #[.int .i64 c, .int .i64 d])).run Try.prog w = .ok (.bool (!eqS a b c d)) w := by
  simp only [eqS]
  by_cases h : a = c <;> by_cases h' : b = d <;> simp [go_sem, h, h']
theorem eqS_self (a b : Int) : eqS a b a b = true := by simp [eqS]
theorem blk2 {t : TypeId} {w : World} {g : Nat} {v0 v1 : Value} (h : Blk t w g [v0, v1]) : w.cell? ⟨g, 0, none⟩ = some v0 ∧ w.cell? ⟨g, 1, none⟩ = some v1 := ⟨h.cell 0, h.cell 1⟩
set_option maxRecDepth 100000 in
set_option maxHeartbeats 800000 in
theorem norm_any (f : Bool) (q : Int) (w : World) :
    Calls Try.prog 46 #[TV f q] w fun e w' => e = .returned (TV f (q % 4)) ∧ Ext w w' := by
  have ha := and3 q
  obtain ⟨r, hr⟩ : ∃ r, r = q % 4 := ⟨_, rfl⟩
  rw [← hr] at ha ⊢
  clear hr
  go_enter Try.func46, Try.ntmps46
  go_wp2_with fail
  refine bodyPost_ret (v := TV f r) (by simp [results, Try.results46, go_sem]) rfl ⟨rfl, ?_⟩
  exact ((Ext.refl _).alloc _).alloc _
def invQ (f : Bool) (q : Int) : Int := (if f = true then q % 4 else -(q % 4)) % 4
def compQ (fb : Bool) (qa qb : Int) : Int := ((if fb = true then -(qa % 4) else qa % 4) + qb % 4) % 4
set_option maxRecDepth 100000 in
set_option maxHeartbeats 1600000 in
theorem inverse_any (f : Bool) (q : Int) (w : World) :
    Calls Try.prog 25 #[TV f q] w fun e w' => e = .returned (TV f (invQ f q)) ∧ Ext w w' := by
  have hr0 : 0 ≤ q % 4 := Int.emod_nonneg _ (by omega)
  have hr1 : q % 4 < 4 := Int.emod_lt_of_pos _ (by omega)
  obtain ⟨r, hr⟩ : ∃ r, r = q % 4 := ⟨_, rfl⟩
  have HR := Lib.hid hr
  rw [← hr] at hr0 hr1
  go_enter Try.func25, Try.ntmps25
  go_wp2_with fail
  refine (norm_any f q _).mono ?_
  rintro e w1 ⟨rfl, he1⟩
  have hT : Blk 29 w1 w.heap.size [.bool f, .int .i64 q] := ((Blk.new' rfl).ext ((Ext.refl _).alloc _)).ext he1
  have hS : Blk 29 w1 (w.heap.size + 1) [.bool false, .int .i64 0] := (Blk.new' (by simp)).ext he1
  have hx1 : Ext w w1 := (((Ext.refl _).alloc _).alloc _).trans he1
  rw [← HR.out]
  clear he1 hr
  obtain ⟨t0, t1⟩ := blk2 hT
  have ft0 := hT.frozen 0
  have ft1 := hT.frozen 1
  have hlt : w.heap.size + 1 < w1.heap.size := hS.lt
  have HT := Lib.hid hT; have HS := Lib.hid hS; have HX := Lib.hid hx1
  clear hT hS hx1
  go_upto_if 7 with fail
  refine wp_at fun W2 hW2 => ?_
  have hk2 : Kept (fun k => k = w.heap.size) w1 W2 := by rw [hW2]; exact kset (kset (Kept.refl _ _) _ _) _ _
  have hT2 : Blk 29 W2 w.heap.size [.bool f, .int .i64 r] := by rw [hW2]; exact (HT.out.set 0 _).set 1 _
  have HS2 := Lib.hid (hk2.blk HS.out (by omega))
  have HX2 := Lib.hid (hk2.ext HX.out (fun k e => by omega))
  clear hW2 t0 t1 ft0 ft1
  obtain ⟨t0, t1⟩ := blk2 hT2
  have ft0 := hT2.frozen 0
  have ft1 := hT2.frozen 1
  have HT2 := Lib.hid hT2; clear hT2 hk2
  cases f
  · go_wp2_with fail
    refine (norm_any false (-r) _).mono ?_
    rintro e w2 ⟨rfl, he2⟩
    have hk : Kept (fun k => k = w.heap.size) W2 w2 := Kept.trans (kset (Kept.refl _ _) _ _) (he2.kept _)
    have HS3 := Lib.hid (hk.blk HS2.out (by omega))
    have HX3 := Lib.hid (hk.ext HX2.out (fun k e => by omega))
    clear he2 hk t0 t1 ft0 ft1
    obtain ⟨s0, s1⟩ := blk2 HS3.out
    have fs0 := HS3.out.frozen 0
    have fs1 := HS3.out.frozen 1
    go_wp2_with fail
    refine bodyPost_ret (v := TV false (invQ false q)) (by simp [results, Try.results25, go_sem, s0, s1, invQ, ← HR.out]) rfl ⟨rfl, ?_⟩
    exact (HX3.out.setCell (by simp) _).setCell (by simp) _
  · go_wp2_with fail
    refine (norm_any true r _).mono ?_
    rintro e w2 ⟨rfl, he2⟩
    have hk : Kept (fun k => k = w.heap.size) W2 w2 := he2.kept _
    have HS3 := Lib.hid (hk.blk HS2.out (by omega))
    have HX3 := Lib.hid (hk.ext HX2.out (fun k e => by omega))
    clear he2 hk t0 t1 ft0 ft1
    obtain ⟨s0, s1⟩ := blk2 HS3.out
    have fs0 := HS3.out.frozen 0
    have fs1 := HS3.out.frozen 1
    go_wp2_with fail
    refine bodyPost_ret (v := TV true (invQ true q)) (by simp [results, Try.results25, go_sem, s0, s1, invQ, ← HR.out]) rfl ⟨rfl, ?_⟩
    exact (HX3.out.setCell (by simp) _).setCell (by simp) _
set_option maxRecDepth 100000 in
set_option maxHeartbeats 3200000 in
theorem compose_any (fa fb : Bool) (qa qb : Int) (w : World) :
    Calls Try.prog 24 #[TV fa qa, TV fb qb] w fun e w' => e = .returned (TV (fa != fb) (compQ fb qa qb)) ∧ Ext w w' := by
  have hr0 : 0 ≤ qa % 4 := Int.emod_nonneg _ (by omega)
  have hr1 : qa % 4 < 4 := Int.emod_lt_of_pos _ (by omega)
  have hs0 : 0 ≤ qb % 4 := Int.emod_nonneg _ (by omega)
  have hs1 : qb % 4 < 4 := Int.emod_lt_of_pos _ (by omega)
  obtain ⟨r, hr⟩ : ∃ r, r = qa % 4 := ⟨_, rfl⟩
  obtain ⟨s, hs⟩ : ∃ s, s = qb % 4 := ⟨_, rfl⟩
  have HR := Lib.hid hr; have HSS := Lib.hid hs
  rw [← hr] at hr0 hr1
  rw [← hs] at hs0 hs1
  clear hr hs
  go_enter Try.func24, Try.ntmps24
  go_wp2_with fail
  refine wp_at fun W0 hW0 => ?_
  have hA : Blk 29 W0 w.heap.size [.bool fa, .int .i64 qa] := by rw [hW0]; exact ((Blk.new' rfl).ext ((Ext.refl _).alloc _)).ext ((Ext.refl _).alloc _)
  have hB : Blk 29 W0 (w.heap.size + 1) [.bool fb, .int .i64 qb] := by rw [hW0]; exact (Blk.new' (by simp)).ext ((Ext.refl _).alloc _)
  have hS : Blk 29 W0 (w.heap.size + 1 + 1) [.bool false, .int .i64 0] := by rw [hW0]; exact Blk.new' (by simp)
  have hx0 : Ext w W0 := by rw [hW0]; exact (((Ext.refl _).alloc _).alloc _).alloc _
  clear hW0
  obtain ⟨a0, a1⟩ := blk2 hA
  obtain ⟨b0, b1⟩ := blk2 hB
  have d0 := fun z : After W0 => After.cell a0 z
  have d1 := fun z : After W0 => After.cell a1 z
  have d2 := fun z : After W0 => After.cell b0 z
  have d3 := fun z : After W0 => After.cell b1 z
  have HA := Lib.hid hA; have HB := Lib.hid hB; have HS := Lib.hid hS; have HX := Lib.hid hx0
  clear hA hB hS hx0 a0 a1 b0 b1
  have HNA : Hid (∀ W : World, Calls Try.prog 46 #[TV fa qa] W fun e w' => e = .returned (TV fa r) ∧ Ext W w') := fun W => by rw [HR.out]; exact norm_any fa qa W
  have HNB : Hid (∀ W : World, Calls Try.prog 46 #[TV fb qb] W fun e w' => e = .returned (TV fb s) ∧ Ext W w') := fun W => by rw [HSS.out]; exact norm_any fb qb W
  refine region_tail 4 (by kernel_rfl) (by kernel_rfl) ?_
  simp only [List.take_succ_cons, List.take_zero, List.drop_succ_cons, List.drop_zero]
  go_big_quiet_step (fail)
  go_big_quiet_step ((go_at_call 46; exact after_call (HNA.out _)))
  go_big_quiet_step (fail)
  go_big_quiet_step ((go_at_call 46; exact after_call (HNB.out _)))
  refine wpQuiet_nil ?_
  rintro w1 ⟨⟨_, he⟩, rfl⟩
  clear d0 d1 d2 d3
  have HA1 := Lib.hid (HA.out.ext he); have HB1 := Lib.hid (HB.out.ext he); have HS1 := Lib.hid (HS.out.ext he); have HX1 := Lib.hid (HX.out.trans he)
  clear he
  obtain ⟨a0, a1⟩ := blk2 HA1.out
  obtain ⟨b0, b1⟩ := blk2 HB1.out
  have fa0 := HA1.out.frozen 0
  have fa1 := HA1.out.frozen 1
  have fb0 := HB1.out.frozen 0
  have fb1 := HB1.out.frozen 1
  go_upto_if 10 with fail
  refine wp_at fun W2 hW2 => ?_
  have hA2 : Blk 29 W2 w.heap.size [.bool fa, .int .i64 r] := by rw [hW2]; exact (((HA1.out.set 0 _).set 1 _).other (by simp) _).other (by simp) _
  have hB2 : Blk 29 W2 (w.heap.size + 1) [.bool fb, .int .i64 s] := by rw [hW2]; exact ((((HB1.out.other (by simp) _).other (by simp) _)).set 0 _).set 1 _
  have hS2 : Blk 29 W2 (w.heap.size + 1 + 1) [.bool false, .int .i64 0] := by rw [hW2]; exact ((((HS1.out.other (by simp; omega) _).other (by simp; omega) _).other (by simp) _).other (by simp) _)
  have hx2 : Ext w W2 := by rw [hW2]; exact (((HX1.out.setCell (by simp) _).setCell (by simp) _).setCell (by simp) _).setCell (by simp) _
  have HA2 := Lib.hid hA2; have HB2 := Lib.hid hB2; have HS2 := Lib.hid hS2; have HX2 := Lib.hid hx2
  clear hW2 hA2 hB2 hS2 hx2 a0 a1 b0 b1 fa0 fa1 fb0 fb1
  obtain ⟨a0, a1⟩ := blk2 HA2.out
  obtain ⟨b0, b1⟩ := blk2 HB2.out
  have fa1 := HA2.out.frozen 1
  have hw : IntKind.i64.wrap (r + s) = r + s := IntWalk.i64_in _ (by omega)
  have hw2 : IntKind.i64.wrap (-r + s) = -r + s := IntWalk.i64_in _ (by omega)
  cases fb <;> cases fa
  · go_wp2_with fail
    refine (norm_any false (r + s) _).mono ?_
    rintro e w3 ⟨rfl, he3⟩
    have HS3 := Lib.hid (HS2.out.ext he3)
    have HX3 := Lib.hid (HX2.out.trans he3)
    clear he3 a0 a1 b0 b1 fa1
    obtain ⟨s0, s1⟩ := blk2 HS3.out
    have fs0 := HS3.out.frozen 0
    have fs1 := HS3.out.frozen 1
    go_wp2_with fail
    refine bodyPost_ret (v := TV false (compQ false qa qb)) (by simp [results, Try.results24, go_sem, s0, s1, compQ, ← HR.out, ← HSS.out]) rfl ⟨rfl, ?_⟩
    exact (HX3.out.setCell (by simp; omega) _).setCell (by simp; omega) _
  · go_wp2_with fail
    refine (norm_any true (r + s) _).mono ?_
    rintro e w3 ⟨rfl, he3⟩
    have HS3 := Lib.hid (HS2.out.ext he3)
    have HX3 := Lib.hid (HX2.out.trans he3)
    clear he3 a0 a1 b0 b1 fa1
    obtain ⟨s0, s1⟩ := blk2 HS3.out
    have fs0 := HS3.out.frozen 0
    have fs1 := HS3.out.frozen 1
    go_wp2_with fail
    refine bodyPost_ret (v := TV true (compQ false qa qb)) (by simp [results, Try.results24, go_sem, s0, s1, compQ, ← HR.out, ← HSS.out]) rfl ⟨rfl, ?_⟩
    exact (HX3.out.setCell (by simp; omega) _).setCell (by simp; omega) _
  · go_wp2_with fail
    refine (norm_any true (-r + s) _).mono ?_
    rintro e w3 ⟨rfl, he3⟩
    have HS3 := Lib.hid (((HS2.out.other (by simp; omega) _)).ext he3)
    have HX3 := Lib.hid ((HX2.out.setCell (by simp) _).trans he3)
    clear he3 a0 a1 b0 b1 fa1
    obtain ⟨s0, s1⟩ := blk2 HS3.out
    have fs0 := HS3.out.frozen 0
    have fs1 := HS3.out.frozen 1
    go_wp2_with fail
    refine bodyPost_ret (v := TV true (compQ true qa qb)) (by simp [results, Try.results24, go_sem, s0, s1, compQ, ← HR.out, ← HSS.out]) rfl ⟨rfl, ?_⟩
    exact (HX3.out.setCell (by simp; omega) _).setCell (by simp; omega) _
  · go_wp2_with fail
    refine (norm_any false (-r + s) _).mono ?_
    rintro e w3 ⟨rfl, he3⟩
    have HS3 := Lib.hid (((HS2.out.other (by simp; omega) _)).ext he3)
    have HX3 := Lib.hid ((HX2.out.setCell (by simp) _).trans he3)
    clear he3 a0 a1 b0 b1 fa1
    obtain ⟨s0, s1⟩ := blk2 HS3.out
    have fs0 := HS3.out.frozen 0
    have fs1 := HS3.out.frozen 1
    go_wp2_with fail
    refine bodyPost_ret (v := TV false (compQ true qa qb)) (by simp [results, Try.results24, go_sem, s0, s1, compQ, ← HR.out, ← HSS.out]) rfl ⟨rfl, ?_⟩
    exact (HX3.out.setCell (by simp; omega) _).setCell (by simp; omega) _
end Go.Proofs.Ytpmfikkcidgoeaa
