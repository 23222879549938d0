/- The law SpecJudges: for every input it returns true and leaves its arguments as they were. No conditions. -/
import Derived.OpenShut
import Derived.Test.YtkigmpholnfkbaaGreatRows
import Derived.Test.YtkigmpholnfkbaaGreatKRJ52
import Derived.Test.YtkigmpholnfkbaaGreatKLawSw
import Derived.Test.YtkigmpholnfkbaaGreatKOpenS
/- garmentref52.Within -/
namespace Go.Proofs.YtkigmpholnfkbaaGreat
open Go.RowKit
set_option maxRecDepth 100000 in
set_option maxHeartbeats 3200000 in
theorem rspWithin_any (a : StyA) (x : StyX) (A : Option Addr) (n c : Nat) (l : List PomX) (z : Int) (B : Option Addr) (nv cv : Nat) (vs : List Int) (w : World) (hs : StyXAt w a x) (hN : x.sz.length ≤ 1000) (hZ : ∀ k, k < x.sz.length → (gB x.sz k).size ≤ 1000) (hL : ∀ k, k < x.ps.length → (gPx x.ps k).p.es.length ≤ 1000 ∧ (gPx x.ps k).p.cs.length ≤ 1000)
    (hP : PomsAt w A l) (hl : l.length = n) (hc : n ≤ c) (hc' : c ≤ 9223372036854775807) (hV : IntsAt w B vs) (hv : vs.length = nv) (hnv : nv ≤ 9223372036854775807) :
    Calls Tryz.prog 20 #[a.val, .slice A n c, .int .i64 z, .slice B nv cv] w fun e w' => e = .returned (.tuple #[.bool (winB x l z vs), .int .i64 (judE x l z vs)]) ∧ Ext w w' := by
  have HJ := Lib.hid (fun W (h : Ext w W) => rjudge_any a x A n c l z B nv cv vs W (hs.ext h) hN hZ hL (hP.ext h) hl hc hc' (hV.ext h) hv hnv)
  have HL := Lib.hid hl
  clear hs hN hZ hL hP hV hv hl
  obtain ⟨nm, AS, nS, cS, AM, nM, cM, AP, nP, cP, AU, nU, cU, AK, nK, cK, AO, nO, cO⟩ := a
  simp only [StyA.val] at HJ ⊢
  have HWB : Hid (winB x l z vs = (decide (judE x l z vs = 0) && allB (fun i => decide (gI (judL x l z vs) i = 0)) l.length)) := rfl
  have HJN := Lib.hid (@judE_len x l z vs)
  have HJL := Lib.hid (judL_len x l z vs)
  rw [HL.out] at HWB HJN HJL
  obtain ⟨JE, hJE⟩ : ∃ y, y = judE x l z vs := ⟨_, rfl⟩
  obtain ⟨JL, hJL⟩ : ∃ y, y = judL x l z vs := ⟨_, rfl⟩
  obtain ⟨WB, hWB⟩ : ∃ y, y = winB x l z vs := ⟨_, rfl⟩
  rw [← hJE, ← hJL, ← hWB] at HWB
  rw [← hJE, ← hJL] at HJ
  rw [← hJE] at HJN
  rw [← hJL] at HJL
  rw [← hJE, ← hWB]
  clear hJE hJL hWB
  go_enter Tryz.func20, Tryz.ntmps20
  go_wp2_with fail
  refine (HJ.out _ ((Ext.refl _).alloc _)).mono ?_
  rintro e w1 ⟨v1, rfl, hv1, hv1', he1⟩
  have HX1 : Hid (Ext w w1) := ((Ext.refl _).alloc _).trans he1
  clear he1 HJ
  by_cases hz : JE = 0
  rotate_left
  · have hvf := hv1' hz
    subst hvf
    have HR : Hid (WB = false) := by show _ = _; rw [HWB.out, decide_eq_false hz]; rfl
    have hzb : (JE != 0) = true := by simp [hz]
    clear hz hv1 hv1'
    go_wp2_with fail
    go_ret2
    exact ⟨by rw [HR.out]; rfl, HX1.out⟩
  have hn16 := HJN.out hz
  obtain ⟨A1, c1, hvf, hI, _⟩ := OwnI.slice' (n := n) (hv1 hz) HJL.out
  subst hvf
  have HI := Lib.hid hI
  have HW2 : Hid (WB = allB (fun i => decide (gI JL i = 0)) n) := by show _ = _; rw [HWB.out, decide_eq_true hz]; rfl
  subst hz
  clear hv1 hv1' hI HWB HJN
  go_wp2_with fail
  go_loopw [12] (fun i wr => ∃ k : Nat, k ≤ n ∧ i = .int .i64 k ∧ allB (fun i => decide (gI JL i = 0)) k = true ∧ Ext w1 wr) (fun i _ => n - (intOf i).toNat)
  case atStart => exact ⟨0, Nat.zero_le _, rfl, rfl, Ext.refl _⟩
  case round =>
    obtain ⟨k, hk, rfl, hall, hx⟩ := hrel
    have HALL := Lib.hid hall; have HX := Lib.hid hx; clear hall hx
    by_cases hlt : k < n
    rotate_left
    · obtain rfl : k = n := by omega
      have HR : Hid (WB = true) := by show _ = _; rw [HW2.out]; exact HALL.out
      go_wp2_with fail
      go_ret2
      exact ⟨by rw [HR.out]; rfl, HX1.out.trans HX.out⟩
    obtain ⟨b, o, hA1, d0⟩ := (HI.out.ext HX.out).g (k := k) (by rw [HJL.out]; exact hlt)
    subst hA1
    obtain ⟨v, hv⟩ : ∃ v, v = gI JL k := ⟨_, rfl⟩
    rw [← hv] at d0
    have HVV := Lib.hid hv; clear hv
    by_cases g0 : v = 0
    · have HT : Hid (decide (gI JL k = 0) = true) := by show _ = _; rw [← HVV.out]; exact decide_eq_true g0
      have g0b : (v != 0) = false := by simp [g0]
      clear g0
      go_wp2_with fail
      go_roundw
      case rel => exact ⟨k + 1, by omega, by go_num, allB_succ HALL.out HT.out, HX.out⟩
      case measure => simp [intOf]; omega
    · have HR : Hid (WB = false) := by show _ = _; rw [HW2.out]; exact allB_false hlt (by rw [← HVV.out]; exact decide_eq_false g0)
      have g0b : (v != 0) = true := by simp [g0]
      clear g0
      go_wp2_with fail
      go_ret2
      exact ⟨by rw [HR.out]; rfl, HX1.out.trans HX.out⟩
end Go.Proofs.YtkigmpholnfkbaaGreat
/- the law SpecChecks, walked -/
namespace Go.Proofs.YtkigmpholnfkbaaGreat
open Go.RowKit
theorem LtX.ll {x : StyX} (h : LtX x) : ∀ k, k < x.ps.length → (gPx x.ps k).p.es.length ≤ 1000 ∧ (gPx x.ps k).p.cs.length ≤ 1000 := fun k hk => ⟨Nat.le_trans (h.p k hk).1.e (by omega), Nat.le_trans (h.p k hk).1.c (by omega)⟩
set_option maxRecDepth 100000 in
set_option maxHeartbeats 6400000 in
theorem checksL_any (a : StyA) (x : StyX) (A : Option Addr) (n c : Nat) (l : List PomX) (w : World) (hs : StyXAt w a x)
    (hP : PomsAt w A l) (hl : l.length = n) (hc : n ≤ c) (hc' : c ≤ 9223372036854775807) :
    Calls Tryz.prog 3 #[a.val, .slice A n c] w fun e w' => e = .returned (.bool true) ∧ Ext w w' := by
  have HSM := Lib.hid (fun W (h : Ext w W) => small_any a x A n c l W (hs.ext h) (hP.ext h) hl (Nat.le_trans hc hc'))
  have HCA := Lib.hid (fun (hlt : LtX x) W (h : Ext w W) => spCheck_any a x A n c l W (hs.ext h) hlt.n hlt.zz (hP.ext h) hl hc hc')
  have HCB := Lib.hid (fun (hlt : LtX x) W (h : Ext w W) => r52Check_any a x A n c l W (hs.ext h) hlt.n hlt.zz hlt.ll (hP.ext h) hl hc hc')
  clear hs hP hl
  obtain ⟨nm, AS, nS, cS, AM, nM, cM, AP, nP, cP, AU, nU, cU, AK, nK, cK, AO, nO, cO⟩ := a
  simp only [StyA.val] at HSM HCA HCB ⊢
  obtain ⟨SP, hSP⟩ : ∃ y, y = spcE x l := ⟨_, rfl⟩
  rw [← hSP] at HCA HCB
  clear hSP
  go_enter Tryz.func3, Tryz.ntmps3
  go_wp2_with fail
  refine (HSM.out _ ((Ext.refl _).alloc _)).mono ?_
  rintro e w1 ⟨b, rfl, he1, hb⟩
  have HB1 : Hid (Blk 29 w1 w.heap.size [.string nm, .slice AS nS cS, .slice AM nM cM, .slice AP nP cP, .slice AU nU cU, .slice AK nK cK, .slice AO nO cO]) := (Blk.new' rfl).ext he1
  have HX1 := Lib.hid (((Ext.refl w).alloc _).trans he1)
  have HB := Lib.hid hb
  clear he1 hb HSM
  cases b
  · go_wp2_with fail
    refine (awake_any _).mono ?_
    rintro e w2 ⟨rfl, he2⟩
    go_wp2_with fail
    go_ret
    exact ⟨rfl, HX1.out.trans he2⟩
  obtain ⟨hlt, hfw⟩ := HB.out rfl
  have HA : Hid (∀ W, Ext w1 W → _) := Lib.hid (fun W (h : Ext w1 W) => HCA.out hlt W (HX1.out.trans h))
  have HBB : Hid (∀ W, Ext w1 W → _) := Lib.hid (fun W (h : Ext w1 W) => HCB.out hlt W (HX1.out.trans h))
  clear HCA HCB hlt hfw HB
  obtain ⟨c0, c1, c2, c3, c4, c5, c6⟩ := blk7 HB1.out
  have z0 := fun z : After w1 => After.cell c0 z
  have z1 := fun z : After w1 => After.cell c1 z
  have z2 := fun z : After w1 => After.cell c2 z
  have z3 := fun z : After w1 => After.cell c3 z
  have z4 := fun z : After w1 => After.cell c4 z
  have z5 := fun z : After w1 => After.cell c5 z
  have z6 := fun z : After w1 => After.cell c6 z
  have hee : (SP == SP) = true := by simp
  go_wp2_with fail
  refine region_ext (by kernel_rfl) (by kernel_rfl) ?_
  repeat (first
    | go_big_quiet_step (first
      | (go_at_call 13; exact after_call (HA.out _ (After.ext _)))
      | (go_at_call 14; exact after_call (HBB.out _ (After.ext _)))
      | (go_at_call 12; exact after_call (awake_any _)))
    | (go_big_quiet_want; go_simp; go_big_quiet_on))
  refine wpQuiet_nil ?_
  rintro w4 ⟨⟨_, he4⟩, rfl⟩
  go_wp2_with fail
  go_ret
  exact ⟨rfl, HX1.out.trans he4⟩
end Go.Proofs.YtkigmpholnfkbaaGreat
/- the law SpecJudges, walked -/
namespace Go.Proofs.YtkigmpholnfkbaaGreat
open Go.RowKit
theorem sl_ints {w w' : World} {base : Nat} {v : Value} {r : Int} {L : List Int} (h1 : r = 0 → OwnI w base v L) (h2 : r ≠ 0 → v = .slice none 0 0) (he : Ext w w') : ∃ A c, v = .slice A (if r = 0 then L else []).length c ∧ IntsAt w' A (if r = 0 then L else []) ∧ (if r = 0 then L else []).length ≤ c ∧ c ≤ 9223372036854775807 := by
  by_cases h : r = 0
  · rw [if_pos h]
    obtain ⟨A, c, e, hi, hc, hc'⟩ := OwnI.slice (h1 h)
    exact ⟨A, c, e, hi.ext he, hc, hc'⟩
  · rw [if_neg h]
    exact ⟨none, 0, h2 h, IntsAt.nil, Nat.le_refl _, by omega⟩
set_option maxRecDepth 100000 in
set_option maxHeartbeats 6400000 in
theorem judgesL_any (a : StyA) (x : StyX) (A : Option Addr) (n c : Nat) (l : List PomX) (z : Int) (B : Option Addr) (nv cv : Nat) (vs : List Int) (w : World) (hs : StyXAt w a x)
    (hP : PomsAt w A l) (hl : l.length = n) (hc : n ≤ c) (hc' : c ≤ 9223372036854775807) (hV : IntsAt w B vs) (hv : vs.length = nv) (hnv : nv ≤ 9223372036854775807) :
    Calls Tryz.prog 5 #[a.val, .slice A n c, .int .i64 z, .slice B nv cv] w fun e w' => e = .returned (.bool true) ∧ Ext w w' := by
  have HSM := Lib.hid (fun W (h : Ext w W) => small_any a x A n c l W (hs.ext h) (hP.ext h) hl (Nat.le_trans hc hc'))
  have HJU := Lib.hid (fun (hlt : LtX x) W (h : Ext w W) => judge_any a x A n c l z B nv cv vs W (hs.ext h) hlt.n hlt.zz (hP.ext h) hl hc hc' (hV.ext h) hv hnv)
  have HJR := Lib.hid (fun (hlt : LtX x) W (h : Ext w W) => rjudge_any a x A n c l z B nv cv vs W (hs.ext h) hlt.n hlt.zz hlt.ll (hP.ext h) hl hc hc' (hV.ext h) hv hnv)
  have HWI := Lib.hid (fun (hlt : LtX x) W (h : Ext w W) => withinX_any a x A n c l z B nv cv vs W (hs.ext h) hlt.n hlt.zz (hP.ext h) hl hc hc' (hV.ext h) hv hnv)
  have HWR := Lib.hid (fun (hlt : LtX x) W (h : Ext w W) => rspWithin_any a x A n c l z B nv cv vs W (hs.ext h) hlt.n hlt.zz hlt.ll (hP.ext h) hl hc hc' (hV.ext h) hv hnv)
  have HJN : Hid ((judL x l z vs).length = n) := by show _ = _; rw [judL_len]; exact hl
  have HL := Lib.hid hl
  clear hs hP hl hV hv
  obtain ⟨nm, AS, nS, cS, AM, nM, cM, AP, nP, cP, AU, nU, cU, AK, nK, cK, AO, nO, cO⟩ := a
  simp only [StyA.val] at HSM HJU HJR HWI HWR ⊢
  obtain ⟨JE, hJE⟩ : ∃ y, y = judE x l z vs := ⟨_, rfl⟩
  obtain ⟨JL, hJL⟩ : ∃ y, y = judL x l z vs := ⟨_, rfl⟩
  obtain ⟨WB, hWB⟩ : ∃ y, y = winB x l z vs := ⟨_, rfl⟩
  rw [← hJE] at HJU HJR HWI HWR
  rw [← hJL] at HJU HJR HJN
  rw [← hWB] at HWI HWR
  clear hJE hJL hWB
  go_enter Tryz.func5, Tryz.ntmps5
  go_wp2_with fail
  refine (HSM.out _ ((Ext.refl _).alloc _)).mono ?_
  rintro e w1 ⟨b, rfl, he1, hb⟩
  have HB1 : Hid (Blk 29 w1 w.heap.size [.string nm, .slice AS nS cS, .slice AM nM cM, .slice AP nP cP, .slice AU nU cU, .slice AK nK cK, .slice AO nO cO]) := (Blk.new' rfl).ext he1
  have HX1 := Lib.hid (((Ext.refl w).alloc _).trans he1)
  have HB := Lib.hid hb
  clear he1 hb HSM
  cases b
  · go_wp2_with fail
    refine (awake_any _).mono ?_
    rintro e w2 ⟨rfl, he2⟩
    go_wp2_with fail
    go_ret
    exact ⟨rfl, HX1.out.trans he2⟩
  obtain ⟨hlt, hfw⟩ := HB.out rfl
  have HJ := Lib.hid (HJU.out hlt); have HR := Lib.hid (HJR.out hlt); have HW := Lib.hid (HWI.out hlt); have HV := Lib.hid (HWR.out hlt)
  have HN20 : Hid (n ≤ 20) := by have h1 := hfw.n; have h2 := HL.out; show _ ≤ _; omega
  clear HJU HJR HWI HWR hlt hfw HB
  by_cases h30 : 30 < nv
  · go_wp2_with fail
    refine (awake_any _).mono ?_
    rintro e w2 ⟨rfl, he2⟩
    go_wp2_with fail
    go_ret
    exact ⟨rfl, HX1.out.trans he2⟩
  have hb30 : decide (30 < (nv : Int)) = false := decide_eq_false (by omega)
  obtain ⟨c0, c1, c2, c3, c4, c5, c6⟩ := blk7 HB1.out
  go_wp2_with fail
  refine (HJ.out _ HX1.out).mono ?_
  rintro e w2 ⟨v2, rfl, ho2, hn2, he2⟩
  have HB2 := Lib.hid (HB1.out.ext he2); have HX2 := Lib.hid (HX1.out.trans he2)
  have HO2 := Lib.hid ho2; have HN2 := Lib.hid hn2
  clear he2 c0 c1 c2 c3 c4 c5 c6 HJ ho2 hn2 HB1
  obtain ⟨c0, c1, c2, c3, c4, c5, c6⟩ := blk7 HB2.out
  go_wp2_with fail
  refine (HR.out _ HX2.out).mono ?_
  rintro e w3 ⟨v3, rfl, ho3, hn3, he3⟩
  have HB3 := Lib.hid (HB2.out.ext he3); have HX3 := Lib.hid (HX2.out.trans he3)
  have HO3 := Lib.hid ho3; have HN3 := Lib.hid hn3; have HE3 := Lib.hid he3
  clear he3 c0 c1 c2 c3 c4 c5 c6 HR ho3 hn3 HB2
  obtain ⟨c0, c1, c2, c3, c4, c5, c6⟩ := blk7 HB3.out
  go_wp2_with fail
  refine (HW.out _ HX3.out).mono ?_
  rintro e w4 ⟨rfl, he4⟩
  have HB4 := Lib.hid (HB3.out.ext he4); have HX4 := Lib.hid (HX3.out.trans he4); have HE4 := Lib.hid he4
  clear he4 c0 c1 c2 c3 c4 c5 c6 HW HB3
  obtain ⟨c0, c1, c2, c3, c4, c5, c6⟩ := blk7 HB4.out
  go_wp2_with fail
  refine (HV.out _ HX4.out).mono ?_
  rintro e w5 ⟨rfl, he5⟩
  have HX5 := Lib.hid (HX4.out.trans he5); have HE5 := Lib.hid (HE4.out.trans he5)
  clear he5 c0 c1 c2 c3 c4 c5 c6 HV HB4
  obtain ⟨A2, k2, hv2, hI2, hk2, hk2'⟩ := sl_ints HO2.out HN2.out (HE3.out.trans HE5.out)
  obtain ⟨A3, k3, hv3, hI3, hk3, hk3'⟩ := sl_ints HO3.out HN3.out HE5.out
  subst hv2
  subst hv3
  obtain ⟨LL, hLL⟩ : ∃ LL, LL = (if JE = 0 then JL else []) := ⟨_, rfl⟩
  have HLN : Hid (LL.length ≤ 1000000) := by
    have h1 := HJN.out; have h2 := HN20.out
    show _ ≤ _
    rw [hLL]
    split
    · omega
    · simp
  rw [← hLL] at hI2 hI3 hk2 hk3 ⊢
  have HI2 := Lib.hid hI2; have HI3 := Lib.hid hI3
  clear hLL hI2 hI3 HO2 HO3 HN2 HN3
  have h1 : (JE == JE) = true := by simp
  have h2 : (WB == WB) = true := by simp
  go_wp2_with fail
  refine (sameInts_eq A2 A3 LL.length k2 k3 LL _ HI2.out HI3.out rfl HLN.out).mono ?_
  rintro e w6 ⟨rfl, he6⟩
  go_wp2_with fail
  refine (awake_any _).mono ?_
  rintro e w7 ⟨rfl, he7⟩
  go_wp2_with fail
  go_ret
  exact ⟨rfl, (HX5.out.trans he6).trans he7⟩
end Go.Proofs.YtkigmpholnfkbaaGreat
/- the arguments opened: a style as a whole -/
namespace Go.Proofs.YtkigmpholnfkbaaGreat
open Go.ChangeShapes Go.WideShapes Go.ChangeAt Go.RowKit Go.Deep Go.Joins
section
variable {H : Type} {enc : TypeId × Value → H} {w : World} {base : Nat} {spare : Nat → Bool} {held : Bool}
set_option maxRecDepth 100000 in
theorem strings_open {n : Nat} {cs : List Value} {x : DataW H × List MemPlace} (h : DataW.trod enc Tryz.prog w base spare held n 22 cs = some x) : ∃ A len c l, cs = [.slice A len c] ∧ StrsAt w A l ∧ l.length = len ∧ len ≤ c ∧ c ≤ 9223372036854775807 := by
  rcases open_slice1 Tryz.underlying22 (by kernel_rfl) h with ⟨rfl, _⟩ | ⟨a, len, cap, m, k, V, D, Pl, rfl, hb, hl, hm, hmm, _, hx⟩
  · exact ⟨none, 0, 0, [], rfl, fun _ hk => absurd hk (Nat.not_lt_zero _), rfl, Nat.le_refl _, by omega⟩
  · have hlm : len ≤ m := by rw [hmm]; split <;> omega
    have key : ∀ i, i < len → ∃ s : ByteArray, w.cell? (a.add i) = some (.string s) := fun i hi => by
      obtain ⟨hc, ht'⟩ := hx i (by omega)
      obtain ⟨s, es, _, _⟩ := DataW.trod_string Tryz.underlying9 ht'
      simp at es
      exact ⟨s, by rw [hc, es]⟩
    obtain ⟨f, hf⟩ := choose_lt key
    refine ⟨some a, len, cap, (List.range len).map f, rfl, fun k' hk => ?_, by simp, hl, by unfold maxLen at hm; omega⟩
    simp at hk
    have c0 := hf k' hk
    obtain ⟨b, off, rfl⟩ := plain_of_cell (hf 0 (by omega))
    rw [addr_add] at c0
    exact ⟨b, off, rfl, by rw [c0, gB_eq (by simpa using hk)]; simp⟩
set_option maxRecDepth 100000 in
theorem use_trod {n : Nat} {cs : List Value} {x : DataW H × List MemPlace} (h : DataW.trod enc Tryz.prog w base spare held n 78 cs = some x) : ∃ s : UsX, cs = [.int .i64 s.pc, .int .i64 s.ct, .bool s.pr] := by
  obtain ⟨xs, m, _, _, hlen, hl, hg⟩ := DataW.trod_struct Tryz.underlying78 h
  rw [show Tryz.prog.cellsOf 78 = 3 from by kernel_rfl] at hlen
  match cs, hlen with
  | [c0, c1, c2], _ =>
    have g0 : DataW.trod enc Tryz.prog w base spare held m 3 (([c0, c1, c2].drop 0).take (Tryz.prog.cellsOf 3)) = xs[0]? := hg 0 _ rfl
    have g1 : DataW.trod enc Tryz.prog w base spare held m 3 (([c0, c1, c2].drop 1).take (Tryz.prog.cellsOf 3)) = xs[1]? := hg 1 _ rfl
    have g2 : DataW.trod enc Tryz.prog w base spare held m 4 (([c0, c1, c2].drop 2).take (Tryz.prog.cellsOf 4)) = xs[2]? := hg 2 _ rfl
    rw [show Tryz.prog.cellsOf 3 = 1 from by kernel_rfl] at g0 g1
    rw [show Tryz.prog.cellsOf 4 = 1 from by kernel_rfl] at g2
    match xs, hl with
    | [y0, y1, y2], _ =>
      simp at g0 g1 g2
      obtain ⟨pc, e0, _, _⟩ := DataW.trod_int Tryz.underlying3 g0
      obtain ⟨ct, e1, _, _⟩ := DataW.trod_int Tryz.underlying3 g1
      obtain ⟨pr, e2, _⟩ := DataW.trod_bool Tryz.underlying4 g2
      simp at e0 e1 e2
      subst e0 e1 e2
      exact ⟨⟨pc, ct, pr⟩, rfl⟩
set_option maxRecDepth 100000 in
theorem uses_open {n : Nat} {cs : List Value} {x : DataW H × List MemPlace} (h : DataW.trod enc Tryz.prog w base spare held n 25 cs = some x) : ∃ A len c l, cs = [.slice A len c] ∧ UsesAt w A l ∧ l.length = len ∧ len ≤ c ∧ c ≤ 9223372036854775807 := by
  rcases open_slice Tryz.underlying25 h with ⟨rfl, _⟩ | ⟨a, len, cap, m, k, D, Pl, rfl, hb, hl, hm, hmm, _, hx⟩
  · exact ⟨none, 0, 0, [], rfl, fun _ hk => absurd hk (Nat.not_lt_zero _), rfl, Nat.le_refl _, by omega⟩
  · rw [show Tryz.prog.cellsOf 78 = 3 from by kernel_rfl] at hx
    have hlm : len ≤ m := by rw [hmm]; split <;> omega
    have key : ∀ i, i < len → ∃ s : UsX, (∀ j u, [Value.int .i64 s.pc, .int .i64 s.ct, .bool s.pr][j]? = some u → w.cell? (a.add (i * 3 + j)) = some u) := fun i hi => by
      obtain ⟨cs', hc, ht'⟩ := hx i (by omega)
      obtain ⟨s, rfl⟩ := use_trod ht'
      obtain ⟨_, hlen, hat⟩ := World.cells?_some hc
      refine ⟨s, fun j u hu => ?_⟩
      have hj : j < 3 := by have := (List.getElem?_eq_some_iff.1 hu).1; simpa using this
      have := hat j hj
      rw [add_add] at this
      rw [this, hu]
    obtain ⟨f, hf⟩ := choose_lt key
    refine ⟨some a, len, cap, (List.range len).map f, rfl, fun k' hk => ?_, by simp, hl, by unfold maxLen at hm; omega⟩
    simp at hk
    have hc := hf k' hk
    obtain ⟨b, off, rfl⟩ := plain_of_cell (by simpa using hf 0 (by omega) 0 _ rfl)
    refine ⟨b, off, rfl, ?_⟩
    have hc' : ∀ j u, [Value.int .i64 (f k').pc, .int .i64 (f k').ct, .bool (f k').pr][j]? = some u → w.cell? ⟨b, off + k' * 3 + j, none⟩ = some u := fun j u hu => by
      have := hc j u hu
      rwa [addr_add, ← Nat.add_assoc] at this
    rw [show gU ((List.range len).map f) k' = f k' by unfold gU; simp [hk]]
    exact ⟨hc' 0 _ rfl, hc' 1 _ rfl, hc' 2 _ rfl⟩
set_option maxRecDepth 100000 in
theorem piecesX_open {n : Nat} {cs : List Value} {x : DataW H × List MemPlace} (h : DataW.trod enc Tryz.prog w base spare held n 24 cs = some x) : ∃ A len c l, cs = [.slice A len c] ∧ PiecesX w A l ∧ l.length = len ∧ len ≤ c ∧ c ≤ 9223372036854775807 ∧ ∀ k, k < l.length → WfP (gPx l k).p := by
  rcases open_slice Tryz.underlying24 h with ⟨rfl, _⟩ | ⟨a, len, cap, m, k, D, Pl, rfl, hb, hl, hm, hmm, _, hx⟩
  · exact ⟨none, 0, 0, [], rfl, fun _ hk => absurd hk (Nat.not_lt_zero _), rfl, Nat.le_refl _, by omega, fun _ hk => absurd hk (Nat.not_lt_zero _)⟩
  · rw [show Tryz.prog.cellsOf 52 = 7 from by kernel_rfl] at hx
    have hlm : len ≤ m := by rw [hmm]; split <;> omega
    have key : ∀ i, i < len → ∃ X : PcX, ∃ q : PcA, (∀ j u, (PcA.cells q)[j]? = some u → w.cell? (a.add (i * 7 + j)) = some u) ∧ PcAt w q X.p ∧ WfP X.p ∧ q.nm = X.nm ∧ q.gr = X.gr := fun i hi => by
      obtain ⟨cs', hc, ht'⟩ := hx i (by omega)
      obtain ⟨q, p, rfl, hs, hw⟩ := piece_trodW ht'
      obtain ⟨_, hlen, hat⟩ := World.cells?_some hc
      refine ⟨⟨q.nm, q.gr, p⟩, q, fun j u hu => ?_, hs, hw, rfl, rfl⟩
      have hj : j < 7 := by have := (List.getElem?_eq_some_iff.1 hu).1; simpa using this
      have := hat j hj
      rw [add_add] at this
      rw [this, hu]
    obtain ⟨f, hf⟩ := choose_lt key
    refine ⟨some a, len, cap, (List.range len).map f, rfl, fun k' hk => ?_, by simp, hl, by unfold maxLen at hm; omega, fun k' hk => by
      simp at hk
      obtain ⟨_, _, _, hw, _⟩ := hf k' hk
      rw [gPx_eq (by simpa using hk)]; simpa using hw⟩
    simp at hk
    obtain ⟨q, hc, hs, _, h1, h2⟩ := hf k' hk
    obtain ⟨q0, z0, _⟩ := hf 0 (by omega)
    obtain ⟨b, off, rfl⟩ := plain_of_cell (by simpa using z0 0 _ rfl)
    have e : gPx ((List.range len).map f) k' = f k' := by rw [gPx_eq (by simpa using hk)]; simp
    refine ⟨b, off, q, rfl, by rw [e]; exact hs, ?_, by rw [e]; exact h1, by rw [e]; exact h2⟩
    have hc' : ∀ j u, (PcA.cells q)[j]? = some u → w.cell? ⟨b, off + k' * 7 + j, none⟩ = some u := fun j u hu => by
      have := hc j u hu
      rwa [addr_add, ← Nat.add_assoc] at this
    exact ⟨hc' 0 _ rfl, hc' 1 _ rfl, hc' 2 _ rfl, hc' 3 _ rfl, hc' 4 _ rfl, hc' 5 _ rfl, hc' 6 _ rfl⟩
theorem slice_trod_bd {t e : TypeId} {n : Nat} {cs : List Value} {x : DataW H × List MemPlace} (ht : Tryz.prog.underlying t = some (.slice e)) (h : DataW.trod enc Tryz.prog w base spare held n t cs = some x) : ∃ A len c, cs = [.slice A len c] ∧ len ≤ 9223372036854775807 := by
  rcases open_slice ht h with ⟨rfl, _⟩ | ⟨a, len, cap, m, k, D, Pl, rfl, _, hl, hm, _⟩
  · exact ⟨none, 0, 0, rfl, by omega⟩
  · exact ⟨some a, len, cap, rfl, by unfold maxLen at hm; omega⟩
set_option maxRecDepth 100000 in
theorem style_openX {r : Reach} {b0 : Nat} {v : Value} {d : DataW H} {p : List MemPlace} (hv : Value.okWide Tryz.prog w r b0 29 v) (h : DataW.Trod enc Tryz.prog w base spare held 29 v d p) :
    ∃ a x, v = StyA.val a ∧ StyXAt w a x ∧ ∀ k, k < x.ps.length → WfP (gPx x.ps k).p := by
  obtain ⟨cs, rfl, hsz⟩ := okWide_struct Tryz.underlying29 hv
  obtain ⟨l⟩ := cs
  have hC : Tryz.prog.cellsOf 29 = 7 := by kernel_rfl
  match l, hsz.trans hC with
  | [c0, c1, c2, c3, c4, c5, c6], _ =>
    obtain ⟨fuel, hf⟩ := h
    obtain ⟨xs, n, _, hx, _, hlen, hg⟩ := DataW.trod_struct Tryz.underlying29 hf
    have g0 : DataW.trod enc Tryz.prog w base spare held n 9 (([c0, c1, c2, c3, c4, c5, c6].drop 0).take (Tryz.prog.cellsOf 9)) = xs[0]? := hg 0 _ rfl
    have g1 : DataW.trod enc Tryz.prog w base spare held n 22 (([c0, c1, c2, c3, c4, c5, c6].drop 1).take (Tryz.prog.cellsOf 22)) = xs[1]? := hg 1 _ rfl
    have g2 : DataW.trod enc Tryz.prog w base spare held n 23 (([c0, c1, c2, c3, c4, c5, c6].drop 2).take (Tryz.prog.cellsOf 23)) = xs[2]? := hg 2 _ rfl
    have g3 : DataW.trod enc Tryz.prog w base spare held n 24 (([c0, c1, c2, c3, c4, c5, c6].drop 3).take (Tryz.prog.cellsOf 24)) = xs[3]? := hg 3 _ rfl
    have g4 : DataW.trod enc Tryz.prog w base spare held n 25 (([c0, c1, c2, c3, c4, c5, c6].drop 4).take (Tryz.prog.cellsOf 25)) = xs[4]? := hg 4 _ rfl
    have g5 : DataW.trod enc Tryz.prog w base spare held n 26 (([c0, c1, c2, c3, c4, c5, c6].drop 5).take (Tryz.prog.cellsOf 26)) = xs[5]? := hg 5 _ rfl
    have g6 : DataW.trod enc Tryz.prog w base spare held n 27 (([c0, c1, c2, c3, c4, c5, c6].drop 6).take (Tryz.prog.cellsOf 27)) = xs[6]? := hg 6 _ rfl
    rw [show Tryz.prog.cellsOf 9 = 1 from by kernel_rfl] at g0
    rw [show Tryz.prog.cellsOf 22 = 1 from by kernel_rfl] at g1
    rw [show Tryz.prog.cellsOf 23 = 1 from by kernel_rfl] at g2
    rw [show Tryz.prog.cellsOf 24 = 1 from by kernel_rfl] at g3
    rw [show Tryz.prog.cellsOf 25 = 1 from by kernel_rfl] at g4
    rw [show Tryz.prog.cellsOf 26 = 1 from by kernel_rfl] at g5
    rw [show Tryz.prog.cellsOf 27 = 1 from by kernel_rfl] at g6
    match xs, hlen with
    | [y0, y1, y2, y3, y4, y5, y6], _ =>
      simp at g0 g1 g2 g3 g4 g5 g6
      obtain ⟨nm, e0, _, _⟩ := DataW.trod_string Tryz.underlying9 g0
      obtain ⟨AS, nS, cS, sz, e1, hS, lS, hs1, hs2⟩ := strings_open g1
      obtain ⟨AM, nM, cM, ms, e2, hM, lM, hm1, hm2⟩ := ints_open' g2
      obtain ⟨AP, nP, cP, ps, e3, hP, lP, hp1, hp2, hwP⟩ := piecesX_open g3
      obtain ⟨AU, nU, cU, us, e4, hU, lU, hu1, hu2⟩ := uses_open g4
      obtain ⟨AK, nK, cK, ss, e5, hK, lK, hk1, hk2⟩ := seams_open g5
      obtain ⟨AO, nO, cO, e6, ho⟩ := slice_trod_bd Tryz.underlying27 g6
      simp at e0 e1 e2 e3 e4 e5 e6
      subst e0 e1 e2 e3 e4 e5 e6
      exact ⟨⟨nm, AS, nS, cS, AM, nM, cM, AP, nP, cP, AU, nU, cU, AK, nK, cK, AO, nO, cO⟩, ⟨nm, sz, ms, ps, us, ss, nO⟩, rfl, ⟨rfl, hS, hM, hP, hU, hK, lS, lM, lP, lU, lK, rfl, by simp only; omega, by simp only; omega, by simp only; omega, by simp only; omega, by simp only; omega, ho, hp1, hs1⟩, hwP⟩
end
end Go.Proofs.YtkigmpholnfkbaaGreat
/- the arguments opened: points of measure -/
namespace Go.Proofs.YtkigmpholnfkbaaGreat
open Go.ChangeShapes Go.WideShapes Go.ChangeAt Go.RowKit Go.Deep Go.Joins
section
variable {H : Type} {enc : TypeId × Value → H} {w : World} {base : Nat} {spare : Nat → Bool} {held : Bool}
set_option maxRecDepth 100000 in
theorem pom_trod {n : Nat} {cs : List Value} {x : DataW H × List MemPlace} (h : DataW.trod enc Tryz.prog w base spare held n 36 cs = some x) : ∃ (a : PomA) (p : PomX), cs = PomA.cells a ∧ PomAt w a p := by
  obtain ⟨xs, m, _, _, hlen, hl, hg⟩ := DataW.trod_struct Tryz.underlying36 h
  rw [show Tryz.prog.cellsOf 36 = 5 from by kernel_rfl] at hlen
  match cs, hlen with
  | [c0, c1, c2, c3, c4], _ =>
    have g0 : DataW.trod enc Tryz.prog w base spare held m 9 (([c0, c1, c2, c3, c4].drop 0).take (Tryz.prog.cellsOf 9)) = xs[0]? := hg 0 _ rfl
    have g1 : DataW.trod enc Tryz.prog w base spare held m 23 (([c0, c1, c2, c3, c4].drop 1).take (Tryz.prog.cellsOf 23)) = xs[1]? := hg 1 _ rfl
    have g2 : DataW.trod enc Tryz.prog w base spare held m 23 (([c0, c1, c2, c3, c4].drop 2).take (Tryz.prog.cellsOf 23)) = xs[2]? := hg 2 _ rfl
    have g3 : DataW.trod enc Tryz.prog w base spare held m 3 (([c0, c1, c2, c3, c4].drop 3).take (Tryz.prog.cellsOf 3)) = xs[3]? := hg 3 _ rfl
    have g4 : DataW.trod enc Tryz.prog w base spare held m 3 (([c0, c1, c2, c3, c4].drop 4).take (Tryz.prog.cellsOf 3)) = xs[4]? := hg 4 _ rfl
    rw [show Tryz.prog.cellsOf 9 = 1 from by kernel_rfl] at g0
    rw [show Tryz.prog.cellsOf 23 = 1 from by kernel_rfl] at g1 g2
    rw [show Tryz.prog.cellsOf 3 = 1 from by kernel_rfl] at g3 g4
    match xs, hl with
    | [y0, y1, y2, y3, y4], _ =>
      simp at g0 g1 g2 g3 g4
      obtain ⟨nm, e0, _, _⟩ := DataW.trod_string Tryz.underlying9 g0
      obtain ⟨AP, nP, cP, ps, e1, hP, lP, hp1, hp2⟩ := ints_open' g1
      obtain ⟨AE, nE, cE, es, e2, hE, lE, he1, he2⟩ := ints_open' g2
      obtain ⟨pl, e3, _, _⟩ := DataW.trod_int Tryz.underlying3 g3
      obtain ⟨mi, e4, _, _⟩ := DataW.trod_int Tryz.underlying3 g4
      simp at e0 e1 e2 e3 e4
      subst e0 e1 e2 e3 e4
      exact ⟨⟨nm, AP, nP, cP, AE, nE, cE, pl, mi⟩, ⟨nm, ps, es, pl, mi⟩, rfl, ⟨rfl, hP, lP, hE, lE, rfl, rfl, by simp only; omega, by simp only; omega⟩⟩
set_option maxRecDepth 100000 in
theorem poms_open {n : Nat} {cs : List Value} {x : DataW H × List MemPlace} (h : DataW.trod enc Tryz.prog w base spare held n 30 cs = some x) : ∃ A len c l, cs = [.slice A len c] ∧ PomsAt w A l ∧ l.length = len ∧ len ≤ c ∧ c ≤ 9223372036854775807 := by
  rcases open_slice Tryz.underlying30 h with ⟨rfl, _⟩ | ⟨a, len, cap, m, k, D, Pl, rfl, hb, hl, hm, hmm, _, hx⟩
  · exact ⟨none, 0, 0, [], rfl, fun _ hk => absurd hk (Nat.not_lt_zero _), rfl, Nat.le_refl _, by omega⟩
  · rw [show Tryz.prog.cellsOf 36 = 5 from by kernel_rfl] at hx
    have hlm : len ≤ m := by rw [hmm]; split <;> omega
    have key : ∀ i, i < len → ∃ X : PomX, ∃ q : PomA, (∀ j u, (PomA.cells q)[j]? = some u → w.cell? (a.add (i * 5 + j)) = some u) ∧ PomAt w q X := fun i hi => by
      obtain ⟨cs', hc, ht'⟩ := hx i (by omega)
      obtain ⟨q, p, rfl, hs⟩ := pom_trod ht'
      obtain ⟨_, hlen, hat⟩ := World.cells?_some hc
      refine ⟨p, q, fun j u hu => ?_, hs⟩
      have hj : j < 5 := by have := (List.getElem?_eq_some_iff.1 hu).1; simpa using this
      have := hat j hj
      rw [add_add] at this
      rw [this, hu]
    obtain ⟨f, hf⟩ := choose_lt key
    refine ⟨some a, len, cap, (List.range len).map f, rfl, fun k' hk => ?_, by simp, hl, by unfold maxLen at hm; omega⟩
    simp at hk
    obtain ⟨q, hc, hs⟩ := hf k' hk
    obtain ⟨q0, z0, _⟩ := hf 0 (by omega)
    obtain ⟨b, off, rfl⟩ := plain_of_cell (by simpa using z0 0 _ rfl)
    have e : gPm ((List.range len).map f) k' = f k' := by rw [gPm_eq (by simpa using hk)]; simp
    refine ⟨b, off, q, rfl, by rw [e]; exact hs, ?_⟩
    have hc' : ∀ j u, (PomA.cells q)[j]? = some u → w.cell? ⟨b, off + k' * 5 + j, none⟩ = some u := fun j u hu => by
      have := hc j u hu
      rwa [addr_add, ← Nat.add_assoc] at this
    exact ⟨hc' 0 _ rfl, hc' 1 _ rfl, hc' 2 _ rfl, hc' 3 _ rfl, hc' 4 _ rfl⟩
set_option maxRecDepth 100000 in
theorem pom_arg {r : Reach} {b0 : Nat} {v : Value} {d : DataW H} {p : List MemPlace} (hv : Value.okWide Tryz.prog w r b0 36 v) (h : DataW.Trod enc Tryz.prog w base spare held 36 v d p) : ∃ a q, v = PomA.val a ∧ PomAt w a q := by
  obtain ⟨cs, rfl, hsz⟩ := okWide_struct Tryz.underlying36 hv
  obtain ⟨l⟩ := cs
  obtain ⟨fuel, hf⟩ := h
  obtain ⟨a, q, e, h1⟩ := pom_trod hf
  have e' : l = PomA.cells a := e
  subst e'
  exact ⟨a, q, rfl, h1⟩
set_option maxRecDepth 100000 in
theorem poms_arg {r : Reach} {b0 : Nat} {v : Value} {d : DataW H} {p : List MemPlace} (hv : Value.okWide Tryz.prog w r b0 30 v) (h : DataW.Trod enc Tryz.prog w base spare held 30 v d p) : ∃ A n c l, v = .slice A n c ∧ PomsAt w A l ∧ l.length = n ∧ n ≤ c ∧ c ≤ 9223372036854775807 := by
  obtain ⟨a, len, cap, rfl⟩ := okWide_slice Tryz.underlying30 hv
  obtain ⟨fuel, hf⟩ := h
  obtain ⟨A, n, c, l, e, hi, hl, h1, h2⟩ := poms_open hf
  simp [Value.cells] at e
  obtain ⟨rfl, rfl, rfl⟩ := e
  exact ⟨_, _, _, l, rfl, hi, hl, h1, h2⟩
end
end Go.Proofs.YtkigmpholnfkbaaGreat
/- the arguments opened: rows of numbers with their bounds; numbers of 16 and 8 bits -/
namespace Go.Proofs.YtkigmpholnfkbaaGreat
open Go.ChangeShapes Go.WideShapes Go.ChangeAt Go.RowKit Go.Deep Go.Joins
section
variable {H : Type} {enc : TypeId × Value → H} {w : World} {base : Nat} {spare : Nat → Bool} {held : Bool}
set_option maxRecDepth 100000 in
theorem intsB_arg {r : Reach} {b0 : Nat} {v : Value} {d : DataW H} {p : List MemPlace} (hv : Value.okWide Tryz.prog w r b0 23 v) (h : DataW.Trod enc Tryz.prog w base spare held 23 v d p) : ∃ A n c l, v = .slice A n c ∧ IntsAt w A l ∧ l.length = n ∧ n ≤ 9223372036854775807 := by
  obtain ⟨a, len, cap, rfl⟩ := okWide_slice Tryz.underlying23 hv
  obtain ⟨fuel, hf⟩ := h
  obtain ⟨A, n, c, l, e, hi, hl, h1, h2⟩ := ints_open' hf
  simp [Value.cells] at e
  obtain ⟨rfl, rfl, rfl⟩ := e
  exact ⟨_, _, _, l, rfl, hi, hl, by omega⟩
set_option maxRecDepth 100000 in
theorem u16_open {r : Reach} {b0 : Nat} {v : Value} {d : DataW H} {p : List MemPlace} (hv : Value.okWide Tryz.prog w r b0 59 v) (h : DataW.Trod enc Tryz.prog w base spare held 59 v d p) : ∃ n : Nat, v = .int .u16 (n : Int) ∧ n < 65536 := by
  obtain ⟨a, rfl⟩ := okWide_int Tryz.underlying59 hv
  obtain ⟨fuel, hf⟩ := h
  obtain ⟨b, eb, _, wb⟩ := DataW.trod_int Tryz.underlying59 hf
  simp [Value.cells] at eb
  subst eb
  obtain ⟨h1, h2⟩ := bounds_u16 wb
  obtain ⟨n, rfl⟩ := Int.eq_ofNat_of_zero_le h1
  exact ⟨n, rfl, by omega⟩
set_option maxRecDepth 100000 in
theorem u8_open {r : Reach} {b0 : Nat} {v : Value} {d : DataW H} {p : List MemPlace} (hv : Value.okWide Tryz.prog w r b0 5 v) (h : DataW.Trod enc Tryz.prog w base spare held 5 v d p) : ∃ n : Nat, v = .int .u8 (n : Int) ∧ n < 256 := by
  obtain ⟨a, rfl⟩ := okWide_int Tryz.underlying5 hv
  obtain ⟨fuel, hf⟩ := h
  obtain ⟨b, eb, _, wb⟩ := DataW.trod_int Tryz.underlying5 hf
  simp [Value.cells] at eb
  subst eb
  obtain ⟨h1, h2⟩ := bounds_u8 wb
  obtain ⟨n, rfl⟩ := Int.eq_ofNat_of_zero_le h1
  exact ⟨n, rfl, by omega⟩
end
end Go.Proofs.YtkigmpholnfkbaaGreat
namespace Go.Proofs.YtkigmpholnfkbaaGreat
open Go.ChangeShapes Go.WideShapes Go.ChangeAt Go.RowKit Go.Deep Go.Joins
set_option maxRecDepth 100000 in
theorem specJudges_lifted (os : Os) (started : os.Started) (H : Type) (enc : TypeId × Value → H) :
    ReturnsInHanded {} Tryz.checked os 5 .any (Rows.specJudgesSpec.pre6 enc Tryz.prog Tryz.f5 Rows.specJudgesRow.domain false) (Rows.specJudgesSpec.post enc Tryz.prog Tryz.f5 false true false false) := by
  refine returnsInHanded_of_change (C := Tryz.checked) Tryz.own started (by kernel_rfl) Tryz.func5
    (ChangeSpec.witness6 (enc := enc) (C := Tryz.checked) false ⟨#[], #[.agg #[.string ⟨#[]⟩, .slice none 0 0, .slice none 0 0, .slice none 0 0, .slice none 0 0, .slice none 0 0, .slice none 0 0], .slice none 0 0, .int .i64 0, .slice none 0 0], []⟩ 8 (by kernel_rfl) (by kernel_rfl) (by kernel_rfl) (by kernel_rfl)) ?_
  intro W base args ds gs before hval0 hW hcnd _
  have hval : ∀ (j : Nat) t v, Tryz.f5.params[j]? = some t → args[j]? = some v → Value.okWide Tryz.prog W .any base t v := hval0
  have hW' := hW
  obtain ⟨p, q, hA0, hV, rfl, hfz, hnd⟩ := hW
  have hA : DataW.TrodAll enc Tryz.prog W 0 (fun _ => true) true Tryz.f5.params.toList args.toList ds p := hA0
  rw [Tryz.params5] at hA hval
  obtain ⟨v0, vs0, d0, ds0, p0, q0, hargs, rfl, rfl, h0, r0⟩ := trodAll_cons hA
  obtain ⟨v1, vs1, d1, ds1, p1, q1, rfl, rfl, rfl, h1, r1⟩ := trodAll_cons r0
  obtain ⟨v2, vs2, d2, ds2, p2, q2, rfl, rfl, rfl, h2, r2⟩ := trodAll_cons r1
  obtain ⟨v3, vs3, d3, ds3, p3, q3, rfl, rfl, rfl, h3, r3⟩ := trodAll_cons r2
  obtain ⟨rfl, rfl, rfl⟩ := trodAll_nil r3
  obtain rfl : args = #[v0, v1, v2, v3] := by cases args; simp_all
  obtain ⟨rfl, rfl⟩ := trodVars_none hV
  have k0 := h0
  have lt0 : ∀ x ∈ p0, x.block < W.heap.size := by obtain ⟨m, hm⟩ := k0; exact DataW.trod_lt m _ _ _ hm
  obtain ⟨a0, s0, hv0, hS0, wS0⟩ := style_openX (hval 0 29 v0 rfl rfl) h0
  subst hv0
  have k1 := h1
  have lt1 : ∀ x ∈ p1, x.block < W.heap.size := by obtain ⟨m, hm⟩ := k1; exact DataW.trod_lt m _ _ _ hm
  obtain ⟨A1, n1, c1, l1, hv1, hS1, lS1, hc1, hc1'⟩ := poms_arg (hval 1 30 v1 rfl rfl) h1
  subst hv1
  have k2 := h2
  have lt2 : ∀ x ∈ p2, x.block < W.heap.size := by obtain ⟨m, hm⟩ := k2; exact DataW.trod_lt m _ _ _ hm
  obtain ⟨a2, hv2, wf2⟩ := int_open (hval 2 3 v2 rfl rfl) h2
  subst hv2
  have k3 := h3
  have lt3 : ∀ x ∈ p3, x.block < W.heap.size := by obtain ⟨m, hm⟩ := k3; exact DataW.trod_lt m _ _ _ hm
  obtain ⟨A3, n3, c3, l3, hv3, hS3, lS3, hc3⟩ := intsB_arg (hval 3 23 v3 rfl rfl) h3
  subst hv3
  clear hA0 hval0
  refine (judgesL_any a0 s0 A1 n1 c1 l1 a2 A3 n3 c3 l3 W hS0 hS1 lS1 hc1 hc1' hS3 lS3 hc3).mono fun e W' ⟨he, bel⟩ => ?_
  subst he
  exact ⟨_, rfl, _, _, _, [], _, [], hW', trodAll_mk1 (shut_bool Tryz.underlying4 _), (trodAll_cons_mk (Below.trod Tryz.laidOut (by kernel_rfl) (of_decide_eq_true (by kernel_rfl)) k0 bel lt0) (trodAll_cons_mk (Below.trod Tryz.laidOut (by kernel_rfl) (of_decide_eq_true (by kernel_rfl)) k1 bel lt1) (trodAll_cons_mk (Below.trod Tryz.laidOut (by kernel_rfl) (of_decide_eq_true (by kernel_rfl)) k2 bel lt2) (trodAll_cons_mk (Below.trod Tryz.laidOut (by kernel_rfl) (of_decide_eq_true (by kernel_rfl)) k3 bel lt3) trodAll_mk0)))), rfl, Below.frame bel _, fun h => by cases h⟩
theorem specJudges_holds : Rows.SpecJudgesSaid :=
  OpenClaim.holds_of_wide 5 Tryz.f5 rfl rfl rfl rfl rfl rfl rfl ⟨rfl, rfl, rfl, rfl, rfl⟩ rfl rfl rfl rfl rfl (by kernel_rfl) Tryz.func5 (by kernel_rfl)
    (of_decide_eq_true (by kernel_rfl)) (by unfold Func.isWrapper; first | (rw [if_pos (by decide +kernel)]; kernel_rfl) | (rw [if_neg (by decide +kernel)]; exact ⟨rfl, rfl⟩))
    (fun os started H enc _ => specJudges_lifted os started H enc)
end Go.Proofs.YtkigmpholnfkbaaGreat

