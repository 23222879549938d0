/- NotchTurns returns true -/
import Derived.Deep.CutRange
import Derived.Test.YtliijigdbpmpaaaKAwake
import Derived.Test.YtliijigdbpmpaaaKTnP
/- garmentref11.Same: equal lists of spots. No conditions. -/
namespace Go.Proofs.Ytliijigdbpmpaaa
open Go.RowKit
/- equal lists of spots -/
theorem R11Same_ne (A B : Option Addr) (n m c d : Nat) (w : World) (hnm : ((n : Int) != m) = true) :
    Calls Try.prog 17 #[.slice A n c, .slice B m d] w fun e w' => e = .returned (.bool false) ∧ Ext w w' := by
  go_enter Try.func17, Try.ntmps17
  go_wp2
  go_ret
  exact ⟨rfl, Ext.refl _⟩
theorem take_same_succ {l m : List Spot} {k : Nat} (hl : k < l.length) (hm : k < m.length) (h : l.take k = m.take k) (he : l[k] = m[k]) : l.take (k + 1) = m.take (k + 1) := by
  rw [take_succ _ _ hl, take_succ _ _ hm, h, he]
set_option maxHeartbeats 400000 in
theorem R11Same_len (A B : Option Addr) (n c d : Nat) (l m : List Spot) (w : World) (ha : SpotsAt w A l) (hb : SpotsAt w B m) (hl : l.length = n) (hm : m.length = n) (hn : n ≤ 9223372036854775807) :
    Calls Try.prog 17 #[.slice A n c, .slice B n d] w fun e w' => e = .returned (.bool (decide (l = m))) ∧ Ext w w' := by
  have HL := Lib.hid hl; clear hl
  have HM := Lib.hid hm; clear hm
  have HA := Lib.hid ha; clear ha
  have HB := Lib.hid hb; clear hb
  go_enter Try.func17, Try.ntmps17
  go_wp2
  go_loopw [5] (fun i wr => ∃ k : Nat, k ≤ n ∧ i = .int .i64 k ∧ l.take k = m.take k ∧ ∃ q, wr = w.drewN q) (fun i _ => n - (intOf i).toNat)
  case atStart => exact ⟨0, Nat.zero_le _, rfl, rfl, 0, rfl⟩
  case round =>
    obtain ⟨k, hk, rfl, ht, q, rfl⟩ := hrel
    have HT := Lib.hid ht; clear ht
    by_cases hlt : k < n
    · have hkl : k < l.length := by rw [HL.out]; exact hlt
      have hkm : k < m.length := by rw [HM.out]; exact hlt
      obtain ⟨b, off, rfl, hc0, hc1⟩ := HA.out k hkl
      obtain ⟨b', off', rfl, hd0, hd1⟩ := HB.out k hkm
      by_cases heq : l[k] = m[k]
      · have hq : eqS l[k].1 l[k].2 m[k].1 m[k].2 = true := (eqS_iff _ _).2 heq
        have HE := Lib.hid heq; clear heq
        go_wp2
        go_quiet (fail)
        go_wp2
        go_roundw
        case rel => exact ⟨k + 1, by omega, by go_num, take_same_succ hkl hkm HT.out HE.out, _, rfl⟩
        case measure => simp [intOf]; omega
      · have hq : eqS l[k].1 l[k].2 m[k].1 m[k].2 = false := by rw [Bool.eq_false_iff]; intro h; exact heq ((eqS_iff _ _).1 h)
        have HE := Lib.hid heq; clear heq
        go_wp2
        go_quiet (fail)
        go_wp2
        go_ret
        exact ⟨ret_bool (by symm; rw [decide_eq_false_iff_not]; rintro rfl; exact HE.out rfl), Ext.drewN (Ext.drewN (Ext.refl _) _) _⟩
    · go_wp2
      go_ret
      exact ⟨ret_bool (by
        have h := HT.out
        rw [List.take_of_length_le (by rw [HL.out]; omega), List.take_of_length_le (by rw [HM.out]; omega)] at h
        simp [h]), Ext.drewN (Ext.refl _) _⟩
theorem R11Same_any (A B : Option Addr) (c d : Nat) (l m : List Spot) (w : World) (ha : SpotsAt w A l) (hb : SpotsAt w B m) (hn' : m.length ≤ 9223372036854775807) :
    Calls Try.prog 17 #[.slice A l.length c, .slice B m.length d] w fun e w' => e = .returned (.bool (decide (l = m))) ∧ Ext w w' := by
  by_cases h : l.length = m.length
  · rw [h]; exact R11Same_len A B _ c d l m w ha hb h rfl hn'
  · rw [decide_eq_false (p := l = m) (by rintro rfl; exact h rfl)]
    exact R11Same_ne A B _ _ c d w (by simp; omega)

end Go.Proofs.Ytliijigdbpmpaaa
/- R21.Light, said of a piece -/
namespace Go.Proofs.Ytliijigdbpmpaaa
open Go.RowKit
structure LtP (p : Pc) (most : Nat) : Prop where
  e : p.es.length ≤ 20
  c : p.cs.length ≤ 20
  w : p.ws.length ≤ 20
  n : p.ns.length ≤ 20
  l : ∀ k, k < p.es.length → (gE p.es k).2.length ≤ most ∧ (gE p.es k).1.size ≤ 100
theorem lightP_any (a : PcA) (p : Pc) (most : Nat) (hm : most ≤ 1000) (w : World) (hp : PcAt w a p) :
    Calls Try.prog 26 #[a.val, .int .i64 (most : Int)] w fun e w' => ∃ b, e = .returned (.bool b) ∧ Ext w w' ∧ (b = true → LtP p most) :=
  (light_any a.nm a.AE a.AN a.AC a.AW a.nE a.cE a.nN a.cN a.nC a.cC a.nW a.cW a.gr a.mt p.es w most hm hp.e hp.le).mono fun e w' ⟨b, h1, h2, h3⟩ => ⟨b, h1, h2, fun hb => by
    obtain ⟨g1, g2, g3, g4, g5⟩ := h3 hb
    exact ⟨g1, by rw [hp.lc]; exact g2, by rw [hp.li]; exact g3, by rw [hp.ln]; exact g4, g5⟩⟩
end Go.Proofs.Ytliijigdbpmpaaa
/- garmentref23.Light -/
namespace Go.Proofs.Ytliijigdbpmpaaa
open Go.RowKit
def RetL3 (w : World) (p : Pc) (e : Ending) (w' : World) : Prop := ∃ b, e = .returned (.bool b) ∧ Ext w w' ∧ (b = true → LtP p 60)
set_option maxRecDepth 100000 in
set_option maxHeartbeats 1600000 in
theorem light3_any (a : PcA) (p : Pc) (w : World) (hp : PcAt w a p) :
    Calls Try.prog 9 #[a.val] w (RetL3 w p) := by
  have HL := Lib.hid (fun W (h : Ext w W) => lightP_any a p 60 (by omega) W (hp.ext h))
  clear hp
  obtain ⟨nm, AE, nE, cE, gr, AN, nN, cN, AC, nC, cC, AW, nW, cW, mt⟩ := a
  simp only [PcA.val] at HL ⊢
  go_enter Try.func9, Try.ntmps9
  go_wp2_with fail
  refine (HL.out _ ((Ext.refl _).alloc _)).mono ?_
  rintro e w1 ⟨b, rfl, he, hb⟩
  have HX := Lib.hid (((Ext.refl w).alloc _).trans he); have HB := Lib.hid hb
  clear he hb
  go_wp2_with fail
  go_ret
  exact ⟨b, rfl, HX.out, HB.out⟩
end Go.Proofs.Ytliijigdbpmpaaa
namespace Go.Proofs.Ytliijigdbpmpaaa
open Go.RowKit
set_option maxRecDepth 100000 in
set_option maxHeartbeats 6400000 in
theorem nturnsL_any (a : PcA) (p : Pc) (q m : Int) (w : World) (hp : PcAt w a p) (hwE : WfE p.es) (hwC : WfL p.cs) (hpW : plainA a.AW) (hpN : plainA a.AN) :
    Calls Try.prog 8 #[a.val, .int .i64 q, .int .i64 m] w fun e w' => e = .returned (.bool true) ∧ Ext w w' := by
  have HP := Lib.hid hp; clear hp
  have H1 := Lib.hid (fun W (h : Ext w W) => light3_any a p W (HP.out.ext h))
  have H2 := Lib.hid (fun W (h : Ext w W) => placedX_any a p m W (HP.out.ext h))
  have H3 := Lib.hid (fun W (h : Ext w W) => spots_any a p m W (HP.out.ext h))
  have H4 := Lib.hid (fun W (h : Ext w W) (hl : LtP p 60) => turned_any a.nm a.AE a.AN a.AC a.AW a.nE a.cE a.nN a.cN a.nC a.cC a.nW a.cW a.gr a.mt false q p.es p.cs p.ws p.ns W (HP.out.e.ext h) HP.out.le (by rw [← HP.out.le]; have := hl.e; omega) (fun k hk => Nat.le_trans (hl.l k (by rw [HP.out.le]; exact hk)).1 (by decide)) (HP.out.c.ext h) HP.out.lc (by rw [← HP.out.lc]; have := hl.c; omega) (HP.out.i.ext h) HP.out.li (by rw [← HP.out.li]; have := hl.w; omega) (HP.out.n.ext h) HP.out.ln (by rw [← HP.out.ln]; have := hl.n; omega) hpW hpN)
  have HAT := Lib.hid (fun (BE BN BC BW : Option Addr) (dE dN dC dW : Nat) W (h1 : EdgesAt W BE (turnE false q p.es)) (h2 : a.nE ≤ dE) (h3 : dE ≤ 9223372036854775807) (h4 : SpotsAt W BC (turnC false q a.nE p.cs)) (h5 : IntsAt W BW p.ws) (h6 : SpotsAt W BN p.ns) => show PcAt W ⟨a.nm, BE, a.nE, dE, a.gr, BN, a.nN, dN, BC, a.nC, dC, BW, a.nW, dW, a.mt⟩ (tnPc p q) from ⟨h1, by simp only [tnPc, turnE_len]; exact HP.out.le, h2, h3, by simp only [tnPc, HP.out.le]; exact h4, by simp only [tnPc, turnC_len]; exact HP.out.lc, HP.out.nc, h5, HP.out.li, h6, HP.out.ln, HP.out.nn, HP.out.nw⟩)
  have H5 := Lib.hid (fun BE BN BC BW dE dN dC dW W h1 h2 h3 h4 h5 h6 => placedX_any _ _ m W (HAT.out BE BN BC BW dE dN dC dW W h1 h2 h3 h4 h5 h6))
  have H6 := Lib.hid (fun BE BN BC BW dE dN dC dW W h1 h2 h3 h4 h5 h6 => spots_any _ _ m W (HAT.out BE BN BC BW dE dN dC dW W h1 h2 h3 h4 h5 h6))
  have HE := Lib.hid (tn_E (q := q) (m := m) hwE hwC)
  have HPL : Hid (plE p m = 0 → plL (tnPc p q) m = plL p m) := fun h => tn_pl hwE (plE_zero.1 h)
  have HSL : Hid (plE p m = 0 → spL (tnPc p q) m = (spL p m).map (applyT false q)) := fun h => tn_sp hwE (plE_zero.1 h)
  have HLE : Hid (p.es.length = a.nE) := HP.out.le
  have HLN : Hid (p.ns.length = a.nN) := HP.out.ln
  have HLC : Hid (p.cs.length = a.nC) := HP.out.lc
  have HLI : Hid (p.ws.length = a.nW) := HP.out.li
  obtain ⟨nm, AE, nE, cE, gr, AN, nN, cN, AC, nC, cC, AW, nW, cW, mt⟩ := a
  simp only [PcA.val] at H1 H2 H3 H4 H5 H6 HLE HLN HLC HLI ⊢
  clear HP HAT hwE hwC hpW hpN
  go_enter Try.func8, Try.ntmps8
  go_wp2_with fail
  refine (H1.out _ ((Ext.refl _).alloc _)).mono ?_
  rintro e w1 ⟨b, rfl, he1, hb⟩
  have HB1 : Hid (Blk 27 w1 w.heap.size [.string nm, .slice AE nE cE, .int .i64 gr, .slice AN nN cN, .slice AC nC cC, .slice AW nW cW, .bool mt]) := (Blk.new' rfl).ext he1
  have HX1 := Lib.hid (((Ext.refl w).alloc _).trans he1)
  clear he1
  cases b
  · clear hb
    go_wp2_with fail
    refine (awake_any _).mono ?_
    rintro e w2 ⟨rfl, he2⟩
    go_wp2_with fail
    go_ret
    exact ⟨rfl, HX1.out.trans he2⟩
  have HLT := Lib.hid (hb rfl); clear hb
  obtain ⟨p0, p1, p2, p3, p4, p5, p6⟩ := blk7 HB1.out
  have hpl : w.heap.size < w1.heap.size := HB1.out.lt
  go_upto_region 4 with fail
  refine wp_at fun W2 hW2 => ?_
  have hT2 : Blk 73 W2 w1.heap.size [.bool false, .int .i64 q] := by rw [hW2]; exact Blk.new' rfl
  have hx2 : Ext w1 W2 := by rw [hW2]; exact (Ext.refl _).alloc _
  have HT2 := Lib.hid hT2; have HX2 := Lib.hid (HX1.out.trans hx2); have HB2 := Lib.hid (HB1.out.ext hx2)
  obtain ⟨tb, htb⟩ : ∃ tb, tb = w1.heap.size := ⟨_, rfl⟩
  rw [← htb] at HT2 ⊢
  clear hW2 hT2 hx2 p0 p1 p2 p3 p4 p5 p6 htb hpl
  obtain ⟨p0, p1, p2, p3, p4, p5, p6⟩ := blk7 HB2.out
  obtain ⟨t0, t1⟩ := blk2 HT2.out
  go_wp2_with fail
  refine (H4.out _ HX2.out HLT.out).mono ?_
  rintro e w3 ⟨uE, uC, uW, uN, rfl, hE3, hC3, hW3, hN3, hx3⟩
  clear p0 p1 p2 p3 p4 p5 p6 t0 t1
  obtain ⟨BE, dE, hv, hE3', hdE, hdE'⟩ := hE3.slice' (n := nE) (by rw [turnE_len]; exact HLE.out)
  subst hv
  obtain ⟨BC, dC, hv, hC3', _⟩ := hC3.slice' (n := nC) (by rw [turnC_len]; exact HLC.out)
  subst hv
  obtain ⟨BW, dW, hv, hW3', _⟩ := OwnI.slice' (n := nW) hW3 HLI.out
  subst hv
  obtain ⟨BN, dN, hv, hN3', _⟩ := hN3.slice' (n := nN) HLN.out
  subst hv
  have HE3 := Lib.hid hE3'; have HC3 := Lib.hid hC3'; have HI3 := Lib.hid hW3'; have HN3 : Hid (SpotsAt w3 BN p.ns) := hN3'
  have HI3 : Hid (IntsAt w3 BW p.ws) := hW3'
  have HX3 := Lib.hid (HX2.out.trans hx3); have HB3 := Lib.hid (HB2.out.ext hx3); have HT3 := Lib.hid (HT2.out.ext hx3)
  clear hE3 hE3' hC3 hC3' hW3 hW3' hN3 hN3' hx3
  have hpl : w.heap.size < w3.heap.size := HB3.out.lt
  go_upto_region 5 with fail
  refine wp_at fun W4 hW4 => ?_
  have hQ4 : Blk 27 W4 w3.heap.size [.string nm, .slice BE nE dE, .int .i64 gr, .slice BN nN dN, .slice BC nC dC, .slice BW nW dW, .bool mt] := by rw [hW4]; exact Blk.new' rfl
  have hx4 : Ext w3 W4 := by rw [hW4]; exact (Ext.refl _).alloc _
  obtain ⟨qb, hqb⟩ : ∃ qb, qb = w3.heap.size := ⟨_, rfl⟩
  rw [← hqb] at hQ4 ⊢
  have HQ4 := Lib.hid hQ4; have HE34 := Lib.hid hx4; have HX4 := Lib.hid (HX3.out.trans hx4); have HB4 := Lib.hid (HB3.out.ext hx4); have HT4 := Lib.hid (HT3.out.ext hx4)
  clear hW4 hQ4 hx4 hqb hpl
  have HC5 := Lib.hid (fun W (h : Ext w3 W) => H5.out BE BN BC BW dE dN dC dW W (HE3.out.ext h) hdE hdE' (HC3.out.ext h) (HI3.out.ext h) (HN3.out.ext h))
  have HC6 := Lib.hid (fun W (h : Ext w3 W) => H6.out BE BN BC BW dE dN dC dW W (HE3.out.ext h) hdE hdE' (HC3.out.ext h) (HI3.out.ext h) (HN3.out.ext h))
  clear H5 H6 HE3 HC3 HI3 HN3
  have HL1 : Hid ((plL p m).length = nN) := by show _ = _; rw [plL_len]; exact HLN.out
  have HL2 : Hid ((spL p m).length = nN) := by show _ = _; rw [spL_len]; exact HLN.out
  have HN16 : Hid (plE p m = 0 → nN ≤ 16) := fun h => by rw [← HLN.out]; exact (plE_zero.1 h).n
  generalize tnPc p q = Q at HC5 HC6 HE HPL HSL
  obtain ⟨p0, p1, p2, p3, p4, p5, p6⟩ := blk7 HB4.out
  go_wp2_with fail
  refine (H2.out _ HX4.out).mono ?_
  rintro e w5 ⟨v5, rfl, hv5, hv5', he5⟩
  have HX5 := Lib.hid (HX4.out.trans he5); have HQ5 := Lib.hid (HQ4.out.ext he5); have HB5 := Lib.hid (HB4.out.ext he5); have HT5 := Lib.hid (HT4.out.ext he5); have HE35 := Lib.hid (HE34.out.trans he5)
  clear p0 p1 p2 p3 p4 p5 p6 he5
  have hf5 : ∃ A n c, v5 = .slice A n c := by
    rcases Classical.em (plE p m = 0) with h | h
    · obtain ⟨A, c, e, _⟩ := OwnI.slice' (n := _) (hv5 h) rfl; exact ⟨_, _, _, e⟩
    · exact ⟨_, _, _, hv5' h⟩
  obtain ⟨A5, n5, c5', hvf⟩ := hf5
  subst hvf
  have HV5 := Lib.hid hv5; clear hv5 hv5'
  obtain ⟨q0, q1, q2, q3, q4, q5, q6⟩ := blk7 HQ5.out
  go_wp2_with fail
  refine (HC5.out _ HE35.out).mono ?_
  rintro e w6 ⟨v6, rfl, hv6, hv6', he6⟩
  have HX6 := Lib.hid (HX5.out.trans he6); have HQ6 := Lib.hid (HQ5.out.ext he6); have HB6 := Lib.hid (HB5.out.ext he6); have HT6 := Lib.hid (HT5.out.ext he6); have HE36 := Lib.hid (HE35.out.trans he6); have HE6 := Lib.hid he6
  clear q0 q1 q2 q3 q4 q5 q6 he6
  have hf6 : ∃ A n c, v6 = .slice A n c := by
    rcases Classical.em (plE Q m = 0) with h | h
    · obtain ⟨A, c, e, _⟩ := OwnI.slice' (n := _) (hv6 h) rfl; exact ⟨_, _, _, e⟩
    · exact ⟨_, _, _, hv6' h⟩
  obtain ⟨A6, n6, c6', hvf⟩ := hf6
  subst hvf
  have HV6 := Lib.hid hv6; clear hv6 hv6'
  obtain ⟨p0, p1, p2, p3, p4, p5, p6⟩ := blk7 HB6.out
  go_wp2_with fail
  refine (H3.out _ HX6.out).mono ?_
  rintro e w7 ⟨v7, rfl, hv7, hv7', he7⟩
  have HX7 := Lib.hid (HX6.out.trans he7); have HQ7 := Lib.hid (HQ6.out.ext he7); have HT7 := Lib.hid (HT6.out.ext he7); have HE37 := Lib.hid (HE36.out.trans he7); have HE7 := Lib.hid he7
  clear p0 p1 p2 p3 p4 p5 p6 he7
  have hf7 : ∃ A n c, v7 = .slice A n c := by
    rcases Classical.em (plE p m = 0) with h | h
    · obtain ⟨A, c, e⟩ := OwnT.form2 (hv7 h); exact ⟨_, _, _, e⟩
    · exact ⟨_, _, _, hv7' h⟩
  obtain ⟨A7, n7, c7', hvf⟩ := hf7
  subst hvf
  have HV7 := Lib.hid hv7; clear hv7 hv7'
  obtain ⟨q0, q1, q2, q3, q4, q5, q6⟩ := blk7 HQ7.out
  go_wp2_with fail
  refine (HC6.out _ HE37.out).mono ?_
  rintro e w8 ⟨v8, rfl, hv8, hv8', he8⟩
  have HX8 := Lib.hid (HX7.out.trans he8); have HT8 := Lib.hid (HT7.out.ext he8); have HE8 := Lib.hid he8
  clear q0 q1 q2 q3 q4 q5 q6 he8
  have hf8 : ∃ A n c, v8 = .slice A n c := by
    rcases Classical.em (plE Q m = 0) with h | h
    · obtain ⟨A, c, e⟩ := OwnT.form2 (hv8 h); exact ⟨_, _, _, e⟩
    · exact ⟨_, _, _, hv8' h⟩
  obtain ⟨A8, n8, c8', hvf⟩ := hf8
  subst hvf
  have HV8 := Lib.hid hv8; clear hv8 hv8'
  by_cases hz : plE p m = 0
  rotate_left
  · have hz' : plE Q m ≠ 0 := fun h => hz (HE.out.1 h)
    have hzb : (plE p m != 0) = true := by simp [hz]
    have hzb' : (plE Q m != 0) = true := by simp [hz']
    generalize plE p m = E at hzb
    generalize plE Q m = F at hzb'
    have s1 : (E == E) = true := by simp
    have s2 : (F == F) = true := by simp
    clear hz hz' HV5 HV6 HV7 HV8 HE HPL HSL HN16
    go_wp2_with fail
    refine (awake_any _).mono ?_
    rintro e w9 ⟨rfl, he9⟩
    go_wp2_with fail
    go_ret
    exact ⟨rfl, HX8.out.trans he9⟩
  have hz0 := HE.out.2 hz
  have HO5 := HV5.out hz; have HO6 := HV6.out hz0; have HO7 := HV7.out hz; have HO8 := HV8.out hz0
  rw [HPL.out hz] at HO6
  rw [HSL.out hz] at HO8
  have h16 := HN16.out hz
  rw [hz, hz0]
  clear HV5 HV6 HV7 HV8 HE HPL HSL HN16 hz hz0
  generalize plL p m = LP at HO5 HO6 HL1
  generalize spL p m = LS at HO7 HO8 HL2
  have hn5 : nN = n5 := HL1.out.symm.trans (OwnI.plain HO5).2.2
  have hn6 : nN = n6 := HL1.out.symm.trans (OwnI.plain HO6).2.2
  have hn7 : nN = n7 := by rw [← HL2.out, ← OwnT.len HO7]
  have hn8 : nN = n8 := by rw [← HL2.out, ← OwnT.len HO8, List.length_map]
  subst hn5 hn6 hn7 hn8
  have HI5 := Lib.hid ((OwnI.plain HO5).2.1.ext ((HE6.out.trans HE7.out).trans HE8.out)); have HI6 := Lib.hid ((OwnI.plain HO6).2.1.ext (HE7.out.trans HE8.out))
  have HS7 := Lib.hid ((OwnT.plain HO7).2.ext HE8.out); have HS8 := Lib.hid (OwnT.plain HO8).2
  clear HO5 HO6 HO7 HO8
  go_wp2_with fail
  refine (sameInts_eq A5 A6 nN c5' c6' LP _ HI5.out HI6.out HL1.out (by omega)).mono ?_
  rintro e w9 ⟨rfl, he9⟩
  have HX9 := Lib.hid (HX8.out.trans he9); have HT9 := Lib.hid (HT8.out.ext he9); have HS7' := Lib.hid (HS7.out.ext he9); have HS8' := Lib.hid (HS8.out.ext he9)
  clear he9
  have hNN : ((nN : Int) != nN) = false := by simp
  go_wp2_with fail
  go_loopw [17] (fun i wr => ∃ k : Nat, k ≤ nN ∧ i = .int .i64 k ∧ Ext w9 wr) (fun i _ => nN - (intOf i).toNat)
  case atStart => exact ⟨0, Nat.zero_le _, rfl, Ext.refl _⟩
  case round =>
    obtain ⟨k, hk, rfl, hx⟩ := hrel
    have HX := Lib.hid hx; clear hx
    by_cases hlt : k < nN
    rotate_left
    · obtain rfl : k = nN := by omega
      go_wp2_with fail
      refine (awake_any _).mono ?_
      rintro e w10 ⟨rfl, he10⟩
      go_wp2_with fail
      go_ret
      exact ⟨rfl, (HX9.out.trans HX.out).trans he10⟩
    have hkl : k < LS.length := by rw [HL2.out]; exact hlt
    obtain ⟨b7, o7, hA7, y0, y1⟩ := (HS7'.out.ext HX.out).g hkl
    subst hA7
    obtain ⟨b8, o8, hA8, z0, z1⟩ := (HS8'.out.ext HX.out).g (k := k) (by rw [List.length_map]; exact hkl)
    subst hA8
    rw [gS_map hkl] at z0 z1
    obtain ⟨t0, t1⟩ := blk2 (HT9.out.ext HX.out)
    obtain ⟨g, hg⟩ : ∃ g, g = gS LS k := ⟨_, rfl⟩
    rw [← hg] at y0 y1 z0 z1
    clear hg
    obtain ⟨T, hT⟩ : ∃ T, T = applyT false q g := ⟨_, rfl⟩
    rw [← hT] at z0 z1
    have HAP : Hid (∀ W, Calls Try.prog 25 #[TV false q, SV g] W fun e w' => e = .returned (SV T) ∧ Ext W w') := fun W => by rw [hT]; exact apply_any false q g W
    clear hT
    obtain ⟨g0, g1⟩ := g
    obtain ⟨T0, T1⟩ := T
    simp only [TV, SV] at HAP y0 y1 z0 z1
    have hkk : (k : Int) < nN := by omega
    have hkk0 : (0 : Int) ≤ k := by omega
    go_upto_region 16 with fail
    obtain ⟨wq, rfl⟩ : ∃ wq : World, wq = wr := ⟨_, rfl⟩
    have d0 := fun z : After wq => After.cell y0 z
    have d1 := fun z : After wq => After.cell y1 z
    have d2 := fun z : After wq => After.cell z0 z
    have d3 := fun z : After wq => After.cell z1 z
    have d4 := fun z : After wq => After.cell t0 z
    have d5 := fun z : After wq => After.cell t1 z
    have eq1 := eqS_self T0 T1
    clear y0 y1 z0 z1 t0 t1
    refine region_ext (by kernel_rfl) (by kernel_rfl) ?_
    repeat (go_big_quiet_step ((go_at_call 25; exact after_call (HAP.out _))))
    refine wpQuiet_nil ?_
    rintro w10 ⟨⟨_, he⟩, rfl⟩
    clear d0 d1 d2 d3 d4 d5
    go_wp2_with fail
    go_roundw
    case rel => exact ⟨k + 1, by omega, by go_num, HX.out.trans he⟩
    case measure => simp [intOf]; omega
end Go.Proofs.Ytliijigdbpmpaaa
