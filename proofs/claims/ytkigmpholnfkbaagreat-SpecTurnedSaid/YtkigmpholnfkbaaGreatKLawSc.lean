/- the law SpecChecks, walked -/
import Derived.Test.YtkigmpholnfkbaaGreatKAw52
import Derived.Test.YtkigmpholnfkbaaGreatKRS25
/- R21.Light, said of a piece -/
namespace Go.Proofs.YtkigmpholnfkbaaGreat
open Go.RowKit
structure LtP (p : Pc) (most : Nat) : Prop where
  e : p.es.length ≤ 20
  c : p.cs.length ≤ 20
  w : p.ws.length ≤ 20
  n : p.ns.length ≤ 20
  l : ∀ k, k < p.es.length → (gE p.es k).2.length ≤ most ∧ (gE p.es k).1.size ≤ 100
theorem lightP_any (a : PcA) (p : Pc) (most : Nat) (hm : most ≤ 1000) (w : World) (hp : PcAt w a p) :
    Calls Tryz.prog 38 #[a.val, .int .i64 (most : Int)] w fun e w' => ∃ b, e = .returned (.bool b) ∧ Ext w w' ∧ (b = true → LtP p most) :=
  (light_any a.nm a.AE a.AN a.AC a.AW a.nE a.cE a.nN a.cN a.nC a.cC a.nW a.cW a.gr a.mt p.es w most hm hp.e hp.le).mono fun e w' ⟨b, h1, h2, h3⟩ => ⟨b, h1, h2, fun hb => by
    obtain ⟨g1, g2, g3, g4, g5⟩ := h3 hb
    exact ⟨g1, by rw [hp.lc]; exact g2, by rw [hp.li]; exact g3, by rw [hp.ln]; exact g4, g5⟩⟩
end Go.Proofs.YtkigmpholnfkbaaGreat
/- garmentref25.Light -/
namespace Go.Proofs.YtkigmpholnfkbaaGreat
open Go.RowKit
structure LtX (x : StyX) : Prop where
  nm : x.nm.size ≤ 100
  S : x.sz.length ≤ 30
  M : x.ms.length ≤ 30
  U : x.us.length ≤ 30
  K : x.ss.length ≤ 30
  O : x.no ≤ 30
  P : x.ps.length ≤ 14
  z : ∀ k, k < x.sz.length → (gB x.sz k).size ≤ 100
  p : ∀ k, k < x.ps.length → LtP (gPx x.ps k).p 80 ∧ (gPx x.ps k).nm.size ≤ 100
def RetLx (w : World) (x : StyX) (e : Ending) (w' : World) : Prop := ∃ b, e = .returned (.bool b) ∧ Ext w w' ∧ (b = true → LtX x)
set_option maxRecDepth 100000 in
set_option maxHeartbeats 3200000 in
theorem lt25_any (a : StyA) (x : StyX) (w : World) (hs : StyXAt w a x) :
    Calls Tryz.prog 22 #[a.val] w (RetLx w x) := by
  have HS := Lib.hid hs; clear hs
  obtain ⟨nm, AS, nS, cS, AM, nM, cM, AP, nP, cP, AU, nU, cU, AK, nK, cK, AO, nO, cO⟩ := a
  have HLS : Hid (x.sz.length = nS) := HS.out.lS
  have HLM : Hid (x.ms.length = nM) := HS.out.lM
  have HLP : Hid (x.ps.length = nP) := HS.out.lP
  have HLU : Hid (x.us.length = nU) := HS.out.lU
  have HLK : Hid (x.ss.length = nK) := HS.out.lK
  have HLO : Hid (nO = x.no) := HS.out.lO
  have HNM : Hid (nm = x.nm) := HS.out.nm
  have HPS := Lib.hid HS.out.P
  have HSS := Lib.hid HS.out.S
  simp only [StyA.val] at HPS HSS ⊢
  clear HS
  by_cases h0 : 100 < nm.size
  · go_enter Tryz.func22, Tryz.ntmps22
    go_wp2_with fail
    go_ret
    exact ⟨_, rfl, (Ext.refl _).alloc _, fun h => by cases h⟩
  by_cases h1 : 30 < nS
  · go_enter Tryz.func22, Tryz.ntmps22
    go_wp2_with fail
    go_ret
    exact ⟨_, rfl, (Ext.refl _).alloc _, fun h => by cases h⟩
  by_cases h2 : 30 < nM
  · go_enter Tryz.func22, Tryz.ntmps22
    go_wp2_with fail
    go_ret
    exact ⟨_, rfl, (Ext.refl _).alloc _, fun h => by cases h⟩
  by_cases h3 : 30 < nU
  · go_enter Tryz.func22, Tryz.ntmps22
    go_wp2_with fail
    go_ret
    exact ⟨_, rfl, (Ext.refl _).alloc _, fun h => by cases h⟩
  by_cases h4 : 30 < nK
  · go_enter Tryz.func22, Tryz.ntmps22
    go_wp2_with fail
    go_ret
    exact ⟨_, rfl, (Ext.refl _).alloc _, fun h => by cases h⟩
  by_cases h5 : 30 < nO
  · go_enter Tryz.func22, Tryz.ntmps22
    go_wp2_with fail
    go_ret
    exact ⟨_, rfl, (Ext.refl _).alloc _, fun h => by cases h⟩
  by_cases h6 : 14 < nP
  · go_enter Tryz.func22, Tryz.ntmps22
    go_wp2_with fail
    go_ret
    exact ⟨_, rfl, (Ext.refl _).alloc _, fun h => by cases h⟩
  go_enter Tryz.func22, Tryz.ntmps22
  go_wp2_with fail
  refine wp_at fun W0 hW0 => ?_
  have hB : Blk 29 W0 w.heap.size [.string nm, .slice AS nS cS, .slice AM nM cM, .slice AP nP cP, .slice AU nU cU, .slice AK nK cK, .slice AO nO cO] := by rw [hW0]; exact Blk.new' rfl
  have hx0 : Ext w W0 := by rw [hW0]; exact (Ext.refl _).alloc _
  have HB := Lib.hid hB; have HX0 := Lib.hid hx0; clear hW0 hB hx0
  go_loopw [3] (fun i wr => ∃ k : Nat, k ≤ nS ∧ i = .int .i64 k ∧ (∀ j, j < k → (gB x.sz j).size ≤ 100) ∧ Ext W0 wr) (fun i _ => nS - (intOf i).toNat)
  case atStart => exact ⟨0, Nat.zero_le _, rfl, fun j hj => absurd hj (Nat.not_lt_zero _), Ext.refl _⟩
  case round =>
    obtain ⟨k, hk, rfl, hall, hx⟩ := hrel
    have HALL := Lib.hid hall; have HX := Lib.hid hx; clear hall hx
    obtain ⟨c0, c1, c2, c3, c4, c5, c6⟩ := blk7 (HB.out.ext HX.out)
    by_cases hlt : k < nS
    · obtain ⟨b, off, hA, hc⟩ := (HSS.out.ext (HX0.out.trans HX.out)) k (by rw [HLS.out]; exact hlt)
      subst hA
      obtain ⟨s, hs⟩ : ∃ s, s = gB x.sz k := ⟨_, rfl⟩
      rw [← hs] at hc
      have HSK := Lib.hid hs; clear hs
      by_cases g1 : 100 < s.size
      · go_wp2_with fail
        go_ret
        exact ⟨_, rfl, HX0.out.trans HX.out, fun h => by cases h⟩
      go_wp2_with fail
      go_roundw
      case rel => exact ⟨k + 1, by omega, by go_num, fun j hj => by
          rcases Nat.lt_succ_iff_lt_or_eq.1 hj with h | h
          · exact HALL.out j h
          · subst h; rw [← HSK.out]; omega, HX.out⟩
      case measure => simp [intOf]; omega
    obtain rfl : k = nS := by omega
    clear hk hlt
    obtain ⟨W1, hW1⟩ : ∃ W1 : World, W1 = wr := ⟨_, rfl⟩
    rw [← hW1] at c0 c1 c2 c3 c4 c5 c6 HX ⊢
    clear hW1
    have HB1 := Lib.hid (HB.out.ext HX.out)
    have HX1 := Lib.hid (HX0.out.trans HX.out)
    clear HX
    go_wp2_with fail
    clear c0 c1 c2 c3 c4 c5 c6
    go_loopw [4] (fun i wr => ∃ k : Nat, k ≤ nP ∧ i = .int .i64 k ∧ (∀ j, j < k → LtP (gPx x.ps j).p 80 ∧ (gPx x.ps j).nm.size ≤ 100) ∧ Ext W1 wr) (fun i _ => nP - (intOf i).toNat)
    case atStart => exact ⟨0, Nat.zero_le _, rfl, fun j hj => absurd hj (Nat.not_lt_zero _), Ext.refl _⟩
    case round =>
      obtain ⟨k, hk, rfl, hall, hx⟩ := hrel
      have HAL2 := Lib.hid hall; have HX := Lib.hid hx; clear hall hx
      obtain ⟨c0, c1, c2, c3, c4, c5, c6⟩ := blk7 (HB1.out.ext HX.out)
      by_cases hlt : k < nP
      · obtain ⟨bp, op, q, hAP, hpA, hcA, hqn, hqg⟩ := (HPS.out.ext (HX1.out.trans HX.out)) k (by rw [HLP.out]; exact hlt)
        clear hqg
        subst hAP
        have HC := Lib.hid (lightP_any q (gPx x.ps k).p 80 (by omega) wr hpA)
        clear hpA
        obtain ⟨pnm, pAE, pnE, pcE, pgr, pAN, pnN, pcN, pAC, pnC, pcC, pAW, pnW, pcW, pmt⟩ := q
        obtain ⟨a0, a1, a2, a3, a4, a5, a6⟩ := hcA
        simp only [PcA.val] at HC a0 a1 a2 a3 a4 a5 a6 hqn
        have HQN := Lib.hid hqn; clear hqn
        by_cases g1 : 100 < pnm.size
        · go_wp2_with fail
          go_ret
          exact ⟨_, rfl, HX1.out.trans HX.out, fun h => by cases h⟩
        go_wp2_with fail
        refine HC.out.mono ?_
        rintro e w1 ⟨b, rfl, he1, hb⟩
        clear a0 a1 a2 a3 a4 a5 a6 c0 c1 c2 c3 c4 c5 c6
        cases b
        · go_wp2_with fail
          go_ret
          exact ⟨_, rfl, (HX1.out.trans HX.out).trans he1, fun h => by cases h⟩
        · have HLT := Lib.hid (hb rfl); clear hb
          go_wp2_with fail
          go_roundw
          case rel => exact ⟨k + 1, by omega, by go_num, fun j hj => by
            rcases Nat.lt_succ_iff_lt_or_eq.1 hj with h | h
            · exact HAL2.out j h
            · subst h; exact ⟨HLT.out, by rw [← HQN.out]; omega⟩, HX.out.trans he1⟩
          case measure => simp [intOf]; omega
      · obtain rfl : k = nP := by omega
        go_wp2_with fail
        go_ret
        exact ⟨_, rfl, HX1.out.trans HX.out, fun _ => ⟨by rw [← HNM.out]; omega, by rw [HLS.out]; omega, by rw [HLM.out]; omega, by rw [HLU.out]; omega, by rw [HLK.out]; omega, by rw [← HLO.out]; omega, by rw [HLP.out]; omega,
          fun j hj => HALL.out j (by rw [← HLS.out]; exact hj), fun j hj => HAL2.out j (by rw [← HLP.out]; exact hj)⟩⟩
end Go.Proofs.YtkigmpholnfkbaaGreat
/- garmentref52.Few -/
namespace Go.Proofs.YtkigmpholnfkbaaGreat
open Go.RowKit
structure FewP (l : List PomX) : Prop where
  n : l.length ≤ 20
  e : ∀ k, k < l.length → (gPm l k).nm.size ≤ 60 ∧ (gPm l k).ps.length ≤ 20 ∧ (gPm l k).es.length ≤ 20
def RetFp (w : World) (l : List PomX) (e : Ending) (w' : World) : Prop := ∃ b, e = .returned (.bool b) ∧ Ext w w' ∧ (b = true → FewP l)
set_option maxRecDepth 100000 in
set_option maxHeartbeats 1600000 in
theorem few52_any (A : Option Addr) (n c : Nat) (l : List PomX) (w : World) (hP : PomsAt w A l) (hl : l.length = n) (hn : n ≤ 9223372036854775807) :
    Calls Tryz.prog 30 #[.slice A n c] w (RetFp w l) := by
  have HP := Lib.hid hP; clear hP
  have HL := Lib.hid hl; clear hl
  go_enter Tryz.func30, Tryz.ntmps30
  go_wp2_with fail
  go_loopw [3] (fun i wr => ∃ k : Nat, k ≤ n ∧ k ≤ 20 ∧ i = .int .i64 k ∧ (∀ j, j < k → (gPm l j).nm.size ≤ 60 ∧ (gPm l j).ps.length ≤ 20 ∧ (gPm l j).es.length ≤ 20) ∧ Ext w wr) (fun i _ => n - (intOf i).toNat)
  case atStart => exact ⟨0, Nat.zero_le _, Nat.zero_le _, rfl, fun j hj => absurd hj (Nat.not_lt_zero _), Ext.refl _⟩
  case round =>
    obtain ⟨k, hk, hk20, rfl, hall, hx⟩ := hrel
    have HALL := Lib.hid hall; have HX := Lib.hid hx; clear hall hx
    by_cases hlt : k < n
    · by_cases h20 : k < 20
      · obtain ⟨b, off, a, hA, hpa, hca⟩ := (HP.out.ext HX.out) k (by rw [HL.out]; exact hlt)
        subst hA
        have HPA := Lib.hid hpa; clear hpa
        obtain ⟨nm, AP, nP, cP, AE, nE, cE, pl, mi⟩ := a
        obtain ⟨c0, c1, c2, c3, c4⟩ := hca
        have HNM : Hid ((gPm l k).nm = nm) := HPA.out.nm.symm
        have HNP : Hid ((gPm l k).ps.length = nP) := HPA.out.lP
        have HNE : Hid ((gPm l k).es.length = nE) := HPA.out.lE
        simp only at c0 c1 c2 c3 c4
        by_cases g0 : 60 < nm.size
        · go_wp2_with fail
          go_ret
          exact ⟨_, rfl, HX.out, fun h => by cases h⟩
        by_cases g1 : 20 < nP
        · go_wp2_with fail
          go_ret
          exact ⟨_, rfl, HX.out, fun h => by cases h⟩
        by_cases g2 : 20 < nE
        · go_wp2_with fail
          go_ret
          exact ⟨_, rfl, HX.out, fun h => by cases h⟩
        go_wp2_with fail
        go_roundw
        case rel => exact ⟨k + 1, by omega, by omega, by go_num, fun j hj => by
          rcases Nat.lt_succ_iff_lt_or_eq.1 hj with h | h
          · exact HALL.out j h
          · subst h; rw [HNM.out, HNP.out, HNE.out]; omega, HX.out⟩
        case measure => simp [intOf]; omega
      · have h20' : 20 < n ∨ n = 20 := by omega
        obtain rfl : k = 20 := by omega
        rcases h20' with h | h
        · have hb : decide ((n : Int) ≤ 20) = false := by simp; omega
          go_wp2_with fail
          go_ret
          exact ⟨_, rfl, HX.out, fun h => by simp at h⟩
        · omega
    · obtain rfl : k = n := by omega
      go_wp2_with fail
      go_ret
      exact ⟨_, rfl, HX.out, fun h => ⟨by rw [HL.out]; omega, fun j hj => HALL.out j (by rw [← HL.out]; exact hj)⟩⟩
end Go.Proofs.YtkigmpholnfkbaaGreat
/- garmentlaw52.small -/
namespace Go.Proofs.YtkigmpholnfkbaaGreat
open Go.RowKit
def RetSm (w : World) (x : StyX) (l : List PomX) (e : Ending) (w' : World) : Prop := ∃ b, e = .returned (.bool b) ∧ Ext w w' ∧ (b = true → LtX x ∧ FewP l)
set_option maxRecDepth 100000 in
set_option maxHeartbeats 1600000 in
theorem small_any (a : StyA) (x : StyX) (A : Option Addr) (n c : Nat) (l : List PomX) (w : World) (hs : StyXAt w a x) (hP : PomsAt w A l) (hl : l.length = n) (hn : n ≤ 9223372036854775807) :
    Calls Tryz.prog 11 #[a.val, .slice A n c] w (RetSm w x l) := by
  have HL := Lib.hid (fun W (h : Ext w W) => lt25_any a x W (hs.ext h))
  have HF := Lib.hid (fun W (h : Ext w W) => few52_any A n c l W (hP.ext h) hl hn)
  clear hs hP hl
  obtain ⟨nm, AS, nS, cS, AM, nM, cM, AP, nP, cP, AU, nU, cU, AK, nK, cK, AO, nO, cO⟩ := a
  simp only [StyA.val] at HL ⊢
  go_enter Tryz.func11, Tryz.ntmps11
  go_wp2_with fail
  refine (HL.out _ ((Ext.refl _).alloc _)).mono ?_
  rintro e w1 ⟨b, rfl, he1, hb⟩
  have HX1 := Lib.hid (((Ext.refl w).alloc _).trans he1)
  have HB := Lib.hid hb
  clear he1 hb
  cases b
  · go_wp2_with fail
    go_ret
    exact ⟨_, rfl, HX1.out, fun h => by cases h⟩
  have HLT := Lib.hid (HB.out rfl)
  go_wp2_with fail
  refine (HF.out _ HX1.out).mono ?_
  rintro e w2 ⟨b, rfl, he2, hb⟩
  have HX2 := Lib.hid (HX1.out.trans he2)
  have HB2 := Lib.hid hb
  clear he2 hb
  go_wp2_with fail
  go_ret
  exact ⟨_, rfl, HX2.out, fun h => ⟨HLT.out, HB2.out h⟩⟩
end Go.Proofs.YtkigmpholnfkbaaGreat
/- the law SpecWithin, walked -/
namespace Go.Proofs.YtkigmpholnfkbaaGreat
open Go.RowKit
theorem LtX.n {x : StyX} (h : LtX x) : x.sz.length ≤ 1000 := Nat.le_trans h.S (by omega)
theorem LtX.zz {x : StyX} (h : LtX x) : ∀ k, k < x.sz.length → (gB x.sz k).size ≤ 1000 := fun k hk => Nat.le_trans (h.z k hk) (by omega)
theorem judE_zero {x : StyX} {l : List PomX} {z : Int} {vs : List Int} (h : judE x l z vs = 0) : spcE x l = 0 ∧ vs.length = l.length ∧ (0 ≤ z ∧ z < x.sz.length) ∧ ∀ i, i < l.length → (0 ≤ gI vs i ∧ gI vs i ≤ 35184372088832) ∧ tgE x (gPm l i) (gI x.ms z.toNat) = 0 := by
  unfold judE at h
  split at h
  · rename_i h1; exact absurd h h1
  rename_i h1
  split at h
  · cases h
  rename_i h2
  split at h
  · cases h
  rename_i h3
  refine ⟨Classical.not_not.1 h1, by omega, by omega, fun i hi => ?_⟩
  have h4 := (firstE_zero _ _).1 h i hi
  unfold jdE at h4
  split at h4
  · cases h4
  · rename_i h5; exact ⟨by omega, h4⟩
/- one of them, alone -/
theorem jud_one {x : StyX} {l : List PomX} {z : Int} {vs : List Int} (h : judE x l z vs = 0) {i : Nat} (hi : i < l.length) : targE x (gPm l i) z = 0 ∧ targV x (gPm l i) z = (tgTo x (gPm l i) (gI x.ms z.toNat) (gPm l i).ps.length : Int) ∧ PomOk x (gPm l i) := by
  obtain ⟨h1, _, h3, h4⟩ := judE_zero h
  obtain ⟨s0, _, s2⟩ := spcE_zero.1 h1
  have hok := (s2 i hi).1
  have hc : spcE x [gPm l i] = 0 := spcE_one.2 ⟨s0, hok⟩
  have hm := (h4 i hi).2
  obtain ⟨e1, e2⟩ := targ_3 (z := z) hc (by omega)
  exact ⟨by rw [e1]; exact hm, by rw [e2, tgV_ok hm], hok⟩
theorem judL_get {x : StyX} {l : List PomX} {z : Int} {vs : List Int} {i : Nat} (hi : i < l.length) : gI (judL x l z vs) i = judV (gPm l i) (tgTo x (gPm l i) (gI x.ms z.toNat) (gPm l i).ps.length : Int) (gI vs i) := by
  rw [gI_eq (by rw [judL_len]; exact hi)]; simp [judL]
set_option maxRecDepth 100000 in
set_option maxHeartbeats 6400000 in
theorem withinL_any (a : StyA) (x : StyX) (A : Option Addr) (n c : Nat) (l : List PomX) (z : Int) (B : Option Addr) (nv cv : Nat) (vs : List Int) (w : World) (hs : StyXAt w a x)
    (hP : PomsAt w A l) (hl : l.length = n) (hc : n ≤ c) (hc' : c ≤ 9223372036854775807) (hV : IntsAt w B vs) (hv : vs.length = nv) (hnv : nv ≤ 9223372036854775807) :
    Calls Tryz.prog 6 #[a.val, .slice A n c, .int .i64 z, .slice B nv cv] w fun e w' => e = .returned (.bool true) ∧ Ext w w' := by
  have HSM := Lib.hid (fun W (h : Ext w W) => small_any a x A n c l W (hs.ext h) (hP.ext h) hl (Nat.le_trans hc hc'))
  have HJU := Lib.hid (fun (hlt : LtX x) W (h : Ext w W) => judge_any a x A n c l z B nv cv vs W (hs.ext h) hlt.n hlt.zz (hP.ext h) hl hc hc' (hV.ext h) hv hnv)
  have HWI := Lib.hid (fun (hlt : LtX x) W (h : Ext w W) => withinX_any a x A n c l z B nv cv vs W (hs.ext h) hlt.n hlt.zz (hP.ext h) hl hc hc' (hV.ext h) hv hnv)
  have HTA := Lib.hid (fun (hlt : LtX x) q p W (h : Ext w W) (hq : PomAt W q p) => targX_any a x q p z W (hs.ext h) hlt.n hlt.zz hq)
  have HP := Lib.hid hP; have HL := Lib.hid hl; have HV := Lib.hid hV; have HLV := Lib.hid hv
  clear hs hP hl hV hv
  obtain ⟨nm, AS, nS, cS, AM, nM, cM, AP, nP, cP, AU, nU, cU, AK, nK, cK, AO, nO, cO⟩ := a
  simp only [StyA.val] at HSM HJU HWI HTA ⊢
  go_enter Tryz.func6, Tryz.ntmps6
  go_wp2_with fail
  refine (HSM.out _ ((Ext.refl _).alloc _)).mono ?_
  rintro e w1 ⟨b, rfl, he1, hb⟩
  have HB1 : Hid (Blk 29 w1 w.heap.size [.string nm, .slice AS nS cS, .slice AM nM cM, .slice AP nP cP, .slice AU nU cU, .slice AK nK cK, .slice AO nO cO]) := (Blk.new' rfl).ext he1
  have HX1 := Lib.hid (((Ext.refl w).alloc _).trans he1)
  have HB := Lib.hid hb
  clear he1 hb HSM
  cases b
  · go_wp2_with fail
    refine (awake_any _).mono ?_
    rintro e w2 ⟨rfl, he2⟩
    go_wp2_with fail
    go_ret
    exact ⟨rfl, HX1.out.trans he2⟩
  obtain ⟨hlt, hfw⟩ := HB.out rfl
  have HFW := Lib.hid hfw.n
  have HJ := Lib.hid (HJU.out hlt); have HW := Lib.hid (HWI.out hlt); have HT := Lib.hid (HTA.out hlt)
  clear HJU HWI HTA hlt hfw HB
  by_cases h30 : 30 < nv
  · go_wp2_with fail
    refine (awake_any _).mono ?_
    rintro e w2 ⟨rfl, he2⟩
    go_wp2_with fail
    go_ret
    exact ⟨rfl, HX1.out.trans he2⟩
  have hb30 : decide (30 < (nv : Int)) = false := decide_eq_false (by omega)
  have hn20 : n ≤ 20 := by have := HFW.out; have := HL.out; omega
  obtain ⟨c0, c1, c2, c3, c4, c5, c6⟩ := blk7 HB1.out
  go_wp2_with fail
  refine (HJ.out _ HX1.out).mono ?_
  rintro e w2 ⟨v2, rfl, ho2, hn2, he2⟩
  have HB2 := Lib.hid (HB1.out.ext he2); have HX2 := Lib.hid (HX1.out.trans he2)
  clear he2 c0 c1 c2 c3 c4 c5 c6 HJ
  obtain ⟨c0, c1, c2, c3, c4, c5, c6⟩ := blk7 HB2.out
  have HJZ := Lib.hid (@judE_zero x l z vs)
  have HJO := Lib.hid (@jud_one x l z vs)
  have HJG := Lib.hid (fun i => @judL_get x l z vs i)
  have HJL := Lib.hid (judL_len x l z vs)
  have HWB : Hid (winB x l z vs = (decide (judE x l z vs = 0) && allB (fun i => decide (gI (judL x l z vs) i = 0)) l.length)) := rfl
  obtain ⟨JE, hJE⟩ : ∃ y, y = judE x l z vs := ⟨_, rfl⟩
  obtain ⟨JL, hJL⟩ : ∃ y, y = judL x l z vs := ⟨_, rfl⟩
  obtain ⟨WB, hWB⟩ : ∃ y, y = winB x l z vs := ⟨_, rfl⟩
  rw [← hJE, ← hWB] at HW
  rw [← hJE] at hn2 ho2 HJZ HJO HWB ⊢
  rw [← hJL] at ho2 HJG HJL HWB
  rw [← hWB] at HWB
  rw [HL.out] at HWB HJL
  clear hJE hJL hWB
  by_cases hz : JE = 0
  rotate_left
  · have hvf := hn2 hz
    subst hvf
    have HR : Hid (WB = false) := by show _ = _; rw [HWB.out, decide_eq_false hz]; rfl
    have hzb : (JE != 0) = true := by simp [hz]
    have hze : (JE == JE) = true := by simp
    clear hz ho2 hn2
    go_wp2_with fail
    refine (HW.out _ HX2.out).mono ?_
    rintro e w3 ⟨rfl, he3⟩
    rw [HR.out]
    have HX3 := Lib.hid (HX2.out.trans he3); clear he3 c0 c1 c2 c3 c4 c5 c6
    go_wp2_with fail
    refine (awake_any _).mono ?_
    rintro e w4 ⟨rfl, he4⟩
    go_wp2_with fail
    go_ret
    exact ⟨rfl, HX3.out.trans he4⟩
  have HR : Hid (WB = allB (fun i => decide (gI JL i = 0)) n) := by show _ = _; rw [HWB.out, decide_eq_true hz]; rfl
  obtain ⟨h1, h2, h3, h4⟩ := HJZ.out hz
  have HJO' := Lib.hid (fun i (hi : i < l.length) => HJO.out hz hi)
  have HVB := Lib.hid (fun i (hi : i < l.length) => (h4 i hi).1)
  have HVN : Hid (nv = n) := by show _ = _; rw [← HLV.out, ← HL.out]; exact h2
  obtain ⟨A1, c1', hvf, hI, _⟩ := OwnI.slice' (n := n) (ho2 hz) HJL.out
  subst hvf
  have HI := Lib.hid hI
  subst hz
  clear HJZ HJO HWB ho2 hn2 h1 h2 h3 h4 hI
  go_wp2_with fail
  refine (HW.out _ HX2.out).mono ?_
  rintro e w3 ⟨rfl, he3⟩
  have HX3 := Lib.hid (HX2.out.trans he3); have HB3 := Lib.hid (HB2.out.ext he3); have HI3 := Lib.hid (HI.out.ext he3)
  clear he3 c0 c1 c2 c3 c4 c5 c6 HW HI HB2
  have hvn : nv = n := HVN.out
  have hb1 : ((n : Int) != (n : Int)) = false := by simp
  have hb2 : ((nv : Int) != (n : Int)) = false := by simp [hvn]
  have hb3 : (nv != n) = false := by simp [hvn]
  clear hvn
  go_wp2_with fail
  clear hb1 hb2 hb3
  go_loopw [13, 14] (fun v i wr => ∃ k : Nat, k ≤ n ∧ i = .int .i64 k ∧ v = .bool (allB (fun i => decide (gI JL i = 0)) k) ∧ Ext w3 wr) (fun _ i _ => n - (intOf i).toNat)
  case atStart => exact ⟨0, Nat.zero_le _, rfl, rfl, Ext.refl _⟩
  case round =>
    obtain ⟨k, hk, rfl, rfl, hx⟩ := hrel
    have HX := Lib.hid hx; clear hx
    have HAS : Hid (allB (fun i => decide (gI JL i = 0)) (k + 1) = (allB (fun i => decide (gI JL i = 0)) k && decide (gI JL k = 0))) := rfl
    by_cases hlt : k < n
    rotate_left
    · obtain rfl : k = n := by omega
      rw [← HR.out]
      have hww : (WB == WB) = true := by simp
      go_wp2_with fail
      refine (awake_any _).mono ?_
      rintro e w4 ⟨rfl, he4⟩
      go_wp2_with fail
      go_ret
      exact ⟨rfl, (HX3.out.trans HX.out).trans he4⟩
    have HKL : Hid (k < l.length) := by show _ < _; rw [HL.out]; exact hlt
    obtain ⟨al, hal⟩ : ∃ b, b = allB (fun i => decide (gI JL i = 0)) k := ⟨_, rfl⟩
    rw [← hal] at HAS ⊢
    clear hal
    obtain ⟨bp, op, q, hA, hq, hcq⟩ := (HP.out.ext (HX3.out.trans HX.out)) k HKL.out
    subst hA
    have HPL : Hid (q.pl = (gPm l k).pl) := hq.pl
    have HMI : Hid (q.mi = (gPm l k).mi) := hq.mi
    obtain ⟨ht1, ht2, hok⟩ := HJO'.out k HKL.out
    have HCU : Hid (∀ W, Ext wr W → Calls Tryz.prog 15 #[.agg #[.string nm, .slice AS nS cS, .slice AM nM cM, .slice AP nP cP, .slice AU nU cU, .slice AK nK cK, .slice AO nO cO], q.val, .int .i64 z] W fun e w' => e = .returned (.tuple #[.int .i64 (targV x (gPm l k) z), .int .i64 (targE x (gPm l k) z)]) ∧ Ext W w') := fun W h => HT.out q (gPm l k) W ((HX3.out.trans HX.out).trans h) (hq.ext h)
    have HG := Lib.hid (HJG.out k HKL.out)
    have hbd := tgTo_bd x (gPm l k) (gI x.ms z.toNat) (gPm l k).ps.length
    have hn16 := hok.n1
    rw [ht1, ht2] at HCU
    obtain ⟨T, hT⟩ : ∃ y, y = tgTo x (gPm l k) (gI x.ms z.toNat) (gPm l k).ps.length := ⟨_, rfl⟩
    rw [← hT] at HCU HG hbd
    have hTb : T ≤ 16000000000000 := by omega
    have hv := HVB.out k HKL.out
    have HP0 := hok.p0; have HP1 := hok.p1; have HM0 := hok.m0; have HM1 := hok.m1
    rw [← HPL.out] at HP0 HP1
    rw [← HMI.out] at HM0 HM1
    have hJ0 : judV (gPm l k) (T : Int) (gI vs k) = 0 ↔ gI vs k - (T : Int) ≤ q.pl ∧ -q.mi ≤ gI vs k - (T : Int) := by
      have := jud_zero (p := gPm l k) (t := (T : Int)) (v := gI vs k) hok.p0 hok.m0
      rw [HPL.out, HMI.out]; exact this
    have hJ1 : 0 < judV (gPm l k) (T : Int) (gI vs k) → gI vs k - (T : Int) - judV (gPm l k) (T : Int) (gI vs k) = q.pl := fun h => by rw [HPL.out]; exact jud_pos h
    have hJ2 : judV (gPm l k) (T : Int) (gI vs k) < 0 → gI vs k - (T : Int) - judV (gPm l k) (T : Int) (gI vs k) = -q.mi := fun h => by rw [HMI.out]; exact jud_neg h
    rw [← HG.out] at hJ0 hJ1 hJ2
    obtain ⟨v, hvv⟩ : ∃ v, v = gI vs k := ⟨_, rfl⟩
    obtain ⟨J, hJJ⟩ : ∃ v, v = gI JL k := ⟨_, rfl⟩
    have HVK : Hid (∀ W, Ext w W → ∃ b o, B = some ⟨b, o, none⟩ ∧ W.cell? ⟨b, o + k, none⟩ = some (.int .i64 v)) := fun W h => by rw [hvv]; exact (HV.out.ext h).g (k := k) (by rw [HLV.out, HVN.out]; exact hlt)
    have HJK : Hid (∀ W, Ext w3 W → ∃ b o, A1 = some ⟨b, o, none⟩ ∧ W.cell? ⟨b, o + k, none⟩ = some (.int .i64 J)) := fun W h => by rw [hJJ]; exact (HI3.out.ext h).g (k := k) (by rw [HJL.out]; exact hlt)
    rw [← hvv] at hJ0 hJ1 hJ2 hv
    rw [← hJJ] at hJ0 hJ1 hJ2 HAS
    clear hvv hJJ hT hbd hn16 ht1 ht2 hok hq HG HPL HMI
    obtain ⟨pn, pAP, pnP, pcP, pAE, pnE, pcE, ppl, pmi⟩ := q
    obtain ⟨a0, a1, a2, a3, a4⟩ := hcq
    simp only [PomA.val] at a0 a1 a2 a3 a4 HCU hJ0 hJ1 hJ2 HP0 HP1 HM0 HM1
    obtain ⟨c0, c1, c2, c3, c4, c5, c6⟩ := blk7 (HB3.out.ext HX.out)
    have z0 := fun z : After wr => After.cell c0 z
    have z1 := fun z : After wr => After.cell c1 z
    have z2 := fun z : After wr => After.cell c2 z
    have z3 := fun z : After wr => After.cell c3 z
    have z4 := fun z : After wr => After.cell c4 z
    have z5 := fun z : After wr => After.cell c5 z
    have z6 := fun z : After wr => After.cell c6 z
    have y0 := fun z : After wr => After.cell a0 z
    have y1 := fun z : After wr => After.cell a1 z
    have y2 := fun z : After wr => After.cell a2 z
    have y3 := fun z : After wr => After.cell a3 z
    have y4 := fun z : After wr => After.cell a4 z
    go_wp2_with fail
    refine region_ext (by kernel_rfl) (by kernel_rfl) ?_
    repeat (first | go_big_quiet_step ((go_at_call 15; exact after_call (HCU.out _ (After.ext _)))) | (go_big_quiet_want; go_simp; go_big_quiet_on))
    refine wpQuiet_nil ?_
    rintro w4 ⟨⟨_, he4⟩, rfl⟩
    have HX4 := Lib.hid (HX.out.trans he4)
    have a3' := he4.cell a3; have a4' := he4.cell a4
    clear z0 z1 z2 z3 z4 z5 z6 y0 y1 y2 y3 y4 a0 a1 a2 a3 a4 c0 c1 c2 c3 c4 c5 c6 he4 HCU
    obtain ⟨bv, ov, hBv, v0⟩ := HVK.out w4 (HX3.out.trans HX4.out)
    subst hBv
    obtain ⟨bj, oj, hBj, j0⟩ := HJK.out w4 HX4.out
    subst hBj
    have hkv : k < nv := by have := HVN.out; omega
    go_upto_region 15 with fail
    have HJJ := Lib.hid hJ0; have HJ1 := Lib.hid hJ1; have HJ2 := Lib.hid hJ2
    have HBD := Lib.hid (show 0 ≤ ppl ∧ 0 ≤ pmi ∧ pmi ≤ 1073741824 ∧ ppl ≤ 1073741824 ∧ 0 ≤ v ∧ v ≤ 35184372088832 from ⟨HP0, HM0, HM1, HP1, hv.1, hv.2⟩)
    clear hJ0 hJ1 hJ2
    go_cut [168] from 99 to 168 (fun u wc => u = .bool false ∧ Ext w4 wc)
    case first =>
      have hJ0 := HJJ.out; have hJ1 := HJ1.out; have hJ2 := HJ2.out
      rcases Int.lt_trichotomy J 0 with hj | hj | hj
      · have e1 := hJ2 hj
        have b0 : (J == 0) = false := by simp; omega
        have b1 : decide (0 < J) = false := decide_eq_false (by omega)
        have b2 : decide (J < 0) = true := decide_eq_true hj
        have b3 : decide (v - (T : Int) ≤ ppl) = true := decide_eq_true (by omega)
        have b4 : decide (-pmi ≤ v - (T : Int)) = false := decide_eq_false (by omega)
        have b5 : (v - (T : Int) - J != -pmi) = false := by rw [e1]; simp
        have hJb : -1000000000000000 ≤ J := by omega
        clear hJ0 hJ1 hJ2 e1
        simp only [List.append_eq, List.cons_append, List.nil_append]
        refine wp_region_quiet_lit (by kernel_rfl) (by kernel_rfl) ?_
        repeat (first | go_big_quiet_step (fail) | (go_big_quiet_want; go_simp; go_big_quiet_on))
        refine wpQuiet_nil ?_
        rintro _ ⟨nq, rfl⟩
        go_wp2_with fail
        go_meet
        case rel => exact ⟨rfl, Ext.drewN (Ext.refl _) _⟩
      · have e0 := hJ0.1 hj
        have b0 : (J == 0) = true := by simp [hj]
        have b1 : decide (0 < J) = false := decide_eq_false (by omega)
        have b2 : decide (J < 0) = false := decide_eq_false (by omega)
        have b3 : decide (v - (T : Int) ≤ ppl) = true := decide_eq_true e0.1
        have b4 : decide (-pmi ≤ v - (T : Int)) = true := decide_eq_true e0.2
        clear hJ0 hJ1 hJ2 hj e0
        simp only [List.append_eq, List.cons_append, List.nil_append]
        refine wp_region_quiet_lit (by kernel_rfl) (by kernel_rfl) ?_
        repeat (first | go_big_quiet_step (fail) | (go_big_quiet_want; go_simp; go_big_quiet_on))
        refine wpQuiet_nil ?_
        rintro _ ⟨nq, rfl⟩
        go_wp2_with fail
        go_meet
        case rel => exact ⟨rfl, Ext.drewN (Ext.refl _) _⟩
      · have e1 := hJ1 hj
        have b0 : (J == 0) = false := by simp; omega
        have b1 : decide (0 < J) = true := decide_eq_true hj
        have b2 : decide (J < 0) = false := decide_eq_false (by omega)
        have b3 : decide (v - (T : Int) ≤ ppl) = false := decide_eq_false (by omega)
        have b5 : (v - (T : Int) - J != ppl) = false := by rw [e1]; simp
        have hJb : J ≤ 1000000000000000 := by omega
        clear hJ0 hJ1 hJ2 e1
        simp only [List.append_eq, List.cons_append, List.nil_append]
        refine wp_region_quiet_lit (by kernel_rfl) (by kernel_rfl) ?_
        repeat (first | go_big_quiet_step (fail) | (go_big_quiet_want; go_simp; go_big_quiet_on))
        refine wpQuiet_nil ?_
        rintro _ ⟨nq, rfl⟩
        go_wp2_with fail
        go_meet
        case rel => exact ⟨rfl, Ext.drewN (Ext.refl _) _⟩
    case rest =>
      obtain ⟨hcv, hcut⟩ := hcut
      subst hcv
      obtain ⟨wz, rfl⟩ : ∃ wz : World, wz = wc := ⟨_, rfl⟩
      have HX5 := Lib.hid (HX4.out.trans hcut)
      have j1 := hcut.cell j0
      clear v0 a3' a4' j0 hcut
      cases al
      · go_wp2_with fail
        go_roundw
        case rel => exact ⟨k + 1, by omega, by go_num, by rw [HAS.out]; rfl, HX5.out⟩
        case measure => simp [intOf]; omega
      · by_cases hj : J = 0
        · have b0 : (J == 0) = true := by simp [hj]
          have HZ : Hid (decide (J = 0) = true) := decide_eq_true hj
          clear hj
          go_wp2_with fail
          go_roundw
          case rel => exact ⟨k + 1, by omega, by go_num, by rw [HAS.out, HZ.out]; rfl, HX5.out⟩
          case measure => simp [intOf]; omega
        · have b0 : (J == 0) = false := by simp [hj]
          have HZ : Hid (decide (J = 0) = false) := decide_eq_false hj
          clear hj
          go_wp2_with fail
          go_roundw
          case rel => exact ⟨k + 1, by omega, by go_num, by rw [HAS.out, HZ.out]; rfl, HX5.out⟩
          case measure => simp [intOf]; omega
end Go.Proofs.YtkigmpholnfkbaaGreat
/- garmentref52: inside -/
namespace Go.Proofs.YtkigmpholnfkbaaGreat
open Go.RowKit
def insB (x : StyX) (p : PomX) : Bool := decide (pm2 x p = 0)
theorem ins_no {x : StyX} {p : PomX} (h : pm2 x p = 3) : insB x p = false := by unfold insB; rw [h]; rfl
theorem ins_yes {x : StyX} {p : PomX} (h : pm2 x p = 0) : insB x p = true := by unfold insB; rw [h]; rfl
theorem pm2_or (x : StyX) (p : PomX) : pm2 x p = 3 ∨ pm2 x p = 0 := by
  unfold pm2 pm3
  split
  · exact Or.inl rfl
  · split
    · exact Or.inl rfl
    · exact Or.inr rfl
set_option maxRecDepth 100000 in
set_option maxHeartbeats 6400000 in
theorem rins_any (a : StyA) (x : StyX) (q : PomA) (p : PomX) (w : World) (hs : StyXAt w a x) (hp : PomAt w q p) (hes : p.es.length = p.ps.length) :
    Calls Tryz.prog 34 #[a.val, q.val] w fun e w' => e = .returned (.bool (insB x p)) ∧ Ext w w' := by
  have HS := Lib.hid hs
  have HP := Lib.hid hp
  clear hs hp
  obtain ⟨nm, AS, nS, cS, AM, nM, cM, AP, nP, cP, AU, nU, cU, AK, nK, cK, AO, nO, cO⟩ := a
  have HLP : Hid (x.ps.length = nP) := HS.out.lP
  have hbP : nP ≤ 9223372036854775807 := HS.out.bP
  have HPS := Lib.hid HS.out.P
  clear HS
  obtain ⟨pn, pAP, pnP, pcP, pAE, pnE, pcE, ppl, pmi⟩ := q
  have HQP : Hid (p.ps.length = pnP) := HP.out.lP
  have HQE : Hid (p.es.length = pnE) := HP.out.lE
  have HQL : Hid (p.pl = ppl) := HP.out.pl.symm
  have HQM : Hid (p.mi = pmi) := HP.out.mi.symm
  have HQA := Lib.hid HP.out.P
  have HQB := Lib.hid HP.out.E
  have hbq : pnP ≤ 9223372036854775807 := HP.out.bP
  obtain rfl : pnP = pnE := by have := HQP.out; have := HQE.out; omega
  clear HP hes
  simp only [StyA.val, PomA.val] at HPS HQA HQB ⊢
  obtain ⟨IB, hIB⟩ : ∃ IB, IB = insB x p := ⟨_, rfl⟩
  rw [← hIB]
  have HIB := Lib.hid hIB; clear hIB
  go_enter Tryz.func34, Tryz.ntmps34
  go_upto_region 1 with fail
  refine wp_at fun W0 hW0 => ?_
  obtain ⟨hb0, hh0⟩ : ∃ z, z = w.heap.size := ⟨_, rfl⟩
  have HB0 : Hid (Blk 29 W0 w.heap.size [.string nm, .slice AS nS cS, .slice AM nM cM, .slice AP nP cP, .slice AU nU cU, .slice AK nK cK, .slice AO nO cO]) := by show Blk _ _ _ _; rw [hW0]; exact (Blk.new' rfl).ext ((Ext.refl _).alloc _)
  have HN0 : Hid (Blk 36 W0 (w.heap.size + 1) [.string pn, .slice pAP pnP pcP, .slice pAE pnP pcE, .int .i64 ppl, .int .i64 pmi]) := by show Blk _ _ _ _; rw [hW0]; exact Blk.new' (by simp)
  have HX0 : Hid (Ext w W0) := by show Ext _ _; rw [hW0]; exact ((Ext.refl _).alloc _).alloc _
  clear hW0 hh0
  go_wp2_with fail
  go_loopw [5] (fun i wr => ∃ m : Nat, m ≤ pnP ∧ i = .int .i64 m ∧ allB (pomRef x p) m = true ∧ Ext W0 wr) (fun i _ => pnP - (intOf i).toNat)
  case atStart => exact ⟨0, Nat.zero_le _, rfl, rfl, Ext.refl _⟩
  case round =>
    obtain ⟨m, hm, rfl, hall, hx⟩ := hrel
    have HAL3 := Lib.hid hall; have HX := Lib.hid hx; clear hall hx
    obtain ⟨a0, a1, a2, a3, a4⟩ := blk5 (HN0.out.ext HX.out)
    obtain ⟨c0, c1, c2, c3, c4, c5, c6⟩ := blk7 (HB0.out.ext HX.out)
    by_cases hmn : m < pnP
    · obtain ⟨bi, oi, hAI, i0⟩ := (HQA.out.ext (HX0.out.trans HX.out)).g (k := m) (by rw [HQP.out]; exact hmn)
      subst hAI
      obtain ⟨be, oe, hAE, e0⟩ := (HQB.out.ext (HX0.out.trans HX.out)).g (k := m) (by rw [HQE.out]; exact hmn)
      subst hAE
      have HRF : Hid (pomRef x p m = edgeB x.s (gI p.ps m) (gI p.es m)) := rfl
      have HFL : Hid (pomRef x p m = false → IB = false) := fun h => by
        rw [HIB.out]; exact ins_no (by unfold pm2; rw [if_pos (by rw [HQP.out]; exact allB_false hmn h)])
      obtain ⟨pc, hpc⟩ : ∃ pc, pc = gI p.ps m := ⟨_, rfl⟩
      obtain ⟨ed, hed⟩ : ∃ ed, ed = gI p.es m := ⟨_, rfl⟩
      rw [← hpc] at i0 HRF
      rw [← hed] at e0 HRF
      clear hpc hed
      by_cases q0 : pc < 0
      · have HR := Lib.hid (HFL.out (by rw [HRF.out]; exact edge_no (by omega)))
        have q0b : decide (pc < 0) = true := decide_eq_true q0
        go_wp2_with fail
        go_quiet (fail)
        go_wp2_with fail
        go_ret
        exact ⟨ret_bool HR.out.symm, HX0.out.trans (HX.out.drewN _)⟩
      have q0b : decide (pc < 0) = false := decide_eq_false q0
      by_cases q1 : (nP : Int) ≤ pc
      · have HR := Lib.hid (HFL.out (by rw [HRF.out]; exact edge_no (by rw [sps_len, HLP.out]; omega)))
        have q1b : decide ((nP : Int) ≤ pc) = true := decide_eq_true q1
        go_wp2_with fail
        go_quiet (fail)
        go_wp2_with fail
        go_ret
        exact ⟨ret_bool HR.out.symm, HX0.out.trans (HX.out.drewN _)⟩
      have q1b : decide ((nP : Int) ≤ pc) = false := decide_eq_false q1
      by_cases q2 : ed < 0
      · have HR := Lib.hid (HFL.out (by rw [HRF.out]; exact edge_no (by omega)))
        have q2b : decide (ed < 0) = true := decide_eq_true q2
        go_wp2_with fail
        go_quiet (fail)
        go_wp2_with fail
        go_ret
        exact ⟨ret_bool HR.out.symm, HX0.out.trans (HX.out.drewN _)⟩
      have q2b : decide (ed < 0) = false := decide_eq_false q2
      obtain ⟨PC, rfl⟩ := Int.eq_ofNat_of_zero_le (show 0 ≤ pc by omega)
      have hPC : PC < nP := by omega
      have HPCL : Hid (PC < x.ps.length) := by show _ < _; rw [HLP.out]; exact hPC
      obtain ⟨bz, oz, q, hAZ, hq, hcq, _, _⟩ := (HPS.out.ext (HX0.out.trans HX.out)) PC HPCL.out
      subst hAZ
      have d1 := hcq.c1
      obtain ⟨zA, hzA⟩ : ∃ z, z = q.AE := ⟨_, rfl⟩
      obtain ⟨zn, hzn⟩ : ∃ z, z = q.nE := ⟨_, rfl⟩
      obtain ⟨zc, hzc⟩ : ∃ z, z = q.cE := ⟨_, rfl⟩
      rw [← hzA, ← hzn, ← hzc] at d1
      have HZN : Hid ((gPx x.ps PC).p.es.length = zn) := by show _ = _; rw [hzn]; exact hq.le
      clear hq hcq hzA hzn hzc
      by_cases q3 : (zn : Int) ≤ ed
      · have HR := Lib.hid (HFL.out (by rw [HRF.out]; exact edge_no (by rw [Int.toNat_natCast, sps_get HPCL.out, HZN.out]; omega)))
        have q3b : decide ((zn : Int) ≤ ed) = true := decide_eq_true q3
        go_wp2_with fail
        go_quiet (fail)
        go_wp2_with fail
        go_ret
        exact ⟨ret_bool HR.out.symm, HX0.out.trans (HX.out.drewN _)⟩
      have q3b : decide ((zn : Int) ≤ ed) = false := decide_eq_false q3
      have HRT : Hid (pomRef x p m = true) := by show _ = _; rw [HRF.out]; exact edge_yes (by rw [Int.toNat_natCast, sps_get HPCL.out, HZN.out, sps_len, HLP.out]; omega)
      go_wp2_with fail
      go_quiet (fail)
      go_wp2_with fail
      go_roundw
      case rel => exact ⟨m + 1, by omega, by go_num, allB_succ HAL3.out HRT.out, HX.out.drewN _⟩
      case measure => simp [intOf]; omega
    obtain rfl : m = pnP := by omega
    have HPE3 : Hid (pm2 x p = if ppl < 0 ∨ 1073741824 < ppl ∨ pmi < 0 ∨ 1073741824 < pmi then 3 else 0) := by
      show _ = _; unfold pm2; rw [if_neg (by rw [HQP.out, HAL3.out]; simp)]; unfold pm3; rw [HQL.out, HQM.out]
    clear HAL3
    have HFL : Hid (ppl < 0 ∨ 1073741824 < ppl ∨ pmi < 0 ∨ 1073741824 < pmi → IB = false) := fun h => by
      rw [HIB.out]; exact ins_no (by rw [HPE3.out, if_pos h])
    have HFT : Hid (¬ (ppl < 0 ∨ 1073741824 < ppl ∨ pmi < 0 ∨ 1073741824 < pmi) → IB = true) := fun h => by
      rw [HIB.out]; exact ins_yes (by rw [HPE3.out, if_neg h])
    clear HIB
    by_cases q0 : 0 ≤ ppl
    rotate_left
    · have HR := Lib.hid (HFL.out (by omega))
      go_wp2_with fail
      go_ret
      exact ⟨ret_bool HR.out.symm, HX0.out.trans HX.out⟩
    by_cases q1 : ppl ≤ 1073741824
    rotate_left
    · have HR := Lib.hid (HFL.out (by omega))
      go_wp2_with fail
      go_ret
      exact ⟨ret_bool HR.out.symm, HX0.out.trans HX.out⟩
    by_cases q2 : 0 ≤ pmi
    rotate_left
    · have HR := Lib.hid (HFL.out (by omega))
      go_wp2_with fail
      go_ret
      exact ⟨ret_bool HR.out.symm, HX0.out.trans HX.out⟩
    by_cases q3 : pmi ≤ 1073741824
    rotate_left
    · have HR := Lib.hid (HFL.out (by omega))
      go_wp2_with fail
      go_ret
      exact ⟨ret_bool HR.out.symm, HX0.out.trans HX.out⟩
    have HR := Lib.hid (HFT.out (by omega))
    go_wp2_with fail
    go_ret
    exact ⟨ret_bool HR.out.symm, HX0.out.trans HX.out⟩
end Go.Proofs.YtkigmpholnfkbaaGreat
/- garmentref52.Check -/
namespace Go.Proofs.YtkigmpholnfkbaaGreat
open Go.RowKit
set_option maxRecDepth 100000 in
set_option maxHeartbeats 6400000 in
theorem r52Check_any (a : StyA) (x : StyX) (A : Option Addr) (n c : Nat) (l : List PomX) (w : World) (hs : StyXAt w a x) (hN : x.sz.length ≤ 1000) (hZ : ∀ k, k < x.sz.length → (gB x.sz k).size ≤ 1000) (hL : ∀ k, k < x.ps.length → (gPx x.ps k).p.es.length ≤ 1000 ∧ (gPx x.ps k).p.cs.length ≤ 1000)
    (hP : PomsAt w A l) (hl : l.length = n) (hc : n ≤ c) (hc' : c ≤ 9223372036854775807) :
    Calls Tryz.prog 14 #[a.val, .slice A n c] w fun e w' => e = .returned (.int .i64 (spcE x l)) ∧ Ext w w' := by
  have HCC := Lib.hid (fun W (h : Ext w W) => r25Check_any a x W (hs.ext h) hN hZ hL)
  have HCI := Lib.hid (fun W q p (h : Ext w W) (hq : PomAt W q p) (he : p.es.length = p.ps.length) => rins_any a x q p W (hs.ext h) hq he)
  clear hs hN hZ hL
  have HP := Lib.hid hP; clear hP
  have HL := Lib.hid hl; clear hl
  obtain ⟨nm, AS, nS, cS, AM, nM, cM, AP, nP, cP, AU, nU, cU, AK, nK, cK, AO, nO, cO⟩ := a
  simp only [StyA.val, PomA.val] at HCC HCI ⊢
  obtain ⟨SP, hSP⟩ : ∃ SP, SP = spcE x l := ⟨_, rfl⟩
  rw [← hSP]
  unfold spcE at hSP
  have HSP := Lib.hid hSP; clear hSP
  go_enter Tryz.func14, Tryz.ntmps14
  go_wp2_with fail
  refine (HCC.out _ ((Ext.refl _).alloc _)).mono ?_
  rintro e w1 ⟨rfl, he1⟩
  have HB1 : Hid (Blk 29 w1 w.heap.size [.string nm, .slice AS nS cS, .slice AM nM cM, .slice AP nP cP, .slice AU nU cU, .slice AK nK cK, .slice AO nO cO]) := (Blk.new' rfl).ext he1
  have HX1 := Lib.hid (((Ext.refl w).alloc _).trans he1)
  clear he1 HCC
  obtain ⟨SE, hSE⟩ : ∃ SE, SE = styE x := ⟨_, rfl⟩
  rw [← hSE] at HSP ⊢
  clear hSE
  by_cases hz : SE = 0
  rotate_left
  · have hzb : (SE != 0) = true := by simp [hz]
    have HR : Hid (SP = SE) := by show _ = _; rw [HSP.out, if_pos hz]
    clear hz
    go_wp2_with fail
    go_ret
    exact ⟨ret_int HR.out.symm, HX1.out⟩
  subst hz
  by_cases h16 : 16 < n
  · have HR : Hid (SP = 5) := by show _ = _; rw [HSP.out, if_neg (by simp), if_pos (by rw [HL.out]; exact h16)]
    go_wp2_with fail
    go_ret
    exact ⟨ret_int HR.out.symm, HX1.out⟩
  have HR1 : Hid (SP = firstE (pomE x l) l.length) := by show _ = _; rw [HSP.out, if_neg (by simp), if_neg (by rw [HL.out]; exact h16)]
  clear HSP
  go_wp2_with fail
  go_loopw [6] (fun i wr => ∃ k : Nat, k ≤ n ∧ i = .int .i64 k ∧ firstE (pomE x l) k = 0 ∧ Ext w1 wr) (fun i _ => n - (intOf i).toNat)
  case atStart => exact ⟨0, Nat.zero_le _, rfl, rfl, Ext.refl _⟩
  case round =>
    obtain ⟨k, hk, rfl, hall, hx⟩ := hrel
    have HALL := Lib.hid hall; have HX := Lib.hid hx; clear hall hx
    by_cases hlt : k < n
    rotate_left
    · obtain rfl : k = n := by omega
      have HR : Hid (SP = 0) := by show _ = _; rw [HR1.out, HL.out]; exact HALL.out
      go_wp2_with fail
      go_ret
      exact ⟨ret_int HR.out.symm, HX1.out.trans HX.out⟩
    have HKL : Hid (k < l.length) := by show _ < _; rw [HL.out]; exact hlt
    obtain ⟨bp, op, q, hA, hq, hcq⟩ := (HP.out.ext (HX1.out.trans HX.out)) k HKL.out
    subst hA
    have HQ := Lib.hid hq; clear hq
    obtain ⟨pn, pAP, pnP, pcP, pAE, pnE, pcE, ppl, pmi⟩ := q
    have HQN : Hid ((gPm l k).nm = pn) := HQ.out.nm.symm
    have HQP : Hid ((gPm l k).ps.length = pnP) := HQ.out.lP
    have HQE : Hid ((gPm l k).es.length = pnE) := HQ.out.lE
    have hbq : pnP ≤ 9223372036854775807 := HQ.out.bP
    obtain ⟨a0, a1, a2, a3, a4⟩ := hcq
    simp only at a0 a1 a2 a3 a4
    have HPE := Lib.hid (pom_eq x l k)
    rw [HQN.out, HQE.out, HQP.out] at HPE
    have HFA : Hid (pomE x l k ≠ 0 → SP = pomE x l k) := fun h => by rw [HR1.out, firstE_at HKL.out HALL.out h]
    obtain ⟨PE, hPE⟩ : ∃ PE, PE = pomE x l k := ⟨_, rfl⟩
    rw [← hPE] at HPE HFA
    have HPD := Lib.hid hPE; clear hPE
    go_upto_region 10 with fail
    refine wp_at fun wq hWq => ?_
    have hNb : Blk 36 wq wr.heap.size [.string pn, .slice pAP pnP pcP, .slice pAE pnE pcE, .int .i64 ppl, .int .i64 pmi] := by rw [hWq]; exact Blk.new' rfl
    have hxq : Ext wr wq := by rw [hWq]; exact (Ext.refl _).alloc _
    obtain ⟨nb, hnb⟩ : ∃ nb, nb = wr.heap.size := ⟨_, rfl⟩
    rw [← hnb] at hNb ⊢
    have HNB := Lib.hid hNb
    have HXq := Lib.hid (HX.out.trans hxq)
    have HQ' := Lib.hid (HQ.out.ext hxq)
    clear hWq hnb hxq hNb HX a0 a1 a2 a3 a4 HQ
    obtain ⟨a0, a1, a2, a3, a4⟩ := blk5 HNB.out
    go_wp2_with fail
    refine (rname_any pn _).mono ?_
    rintro e w2 ⟨rfl, hw2⟩
    obtain rfl : wq = w2 := hw2
    cases hnb : nameB pn
    · have HR : Hid (SP = 1) := by
        have h1 : PE = 1 := by rw [HPE.out, if_pos (Or.inl hnb)]
        show _ = _; rw [HFA.out (by rw [h1]; decide), h1]
      clear hnb
      go_wp2_with fail
      go_ret
      exact ⟨ret_int HR.out.symm, HX1.out.trans HXq.out⟩
    by_cases g1 : pnE = pnP
    rotate_left
    · have HR : Hid (SP = 1) := by
        have h1 : PE = 1 := by rw [HPE.out, if_pos (Or.inr (Or.inl g1))]
        show _ = _; rw [HFA.out (by rw [h1]; decide), h1]
      have g1b : ((pnP : Int) != (pnE : Int)) = true := by simp; omega
      clear hnb g1
      go_wp2_with fail
      go_ret
      exact ⟨ret_int HR.out.symm, HX1.out.trans HXq.out⟩
    have HEQ := Lib.hid g1
    have g1b : ((pnP : Int) != (pnE : Int)) = false := by simp; omega
    by_cases g2 : pnP = 0
    · have HR : Hid (SP = 1) := by
        have h1 : PE = 1 := by rw [HPE.out, if_pos (Or.inr (Or.inr (Or.inl g2)))]
        show _ = _; rw [HFA.out (by rw [h1]; decide), h1]
      have g2b : ((pnE : Int) == 0) = true := by simp; omega
      clear hnb g1 g2
      go_wp2_with fail
      go_ret
      exact ⟨ret_int HR.out.symm, HX1.out.trans HXq.out⟩
    have g2b : ((pnE : Int) == 0) = false := by simp; omega
    by_cases g3 : 16 < pnP
    · have HR : Hid (SP = 1) := by
        have h1 : PE = 1 := by rw [HPE.out, if_pos (Or.inr (Or.inr (Or.inr g3)))]
        show _ = _; rw [HFA.out (by rw [h1]; decide), h1]
      have g3b : 16 < pnE := by omega
      clear hnb g1 g2
      go_wp2_with fail
      go_ret
      exact ⟨ret_int HR.out.symm, HX1.out.trans HXq.out⟩
    have HPE1 : Hid (PE = pm1 x l k) := by show _ = _; rw [HPE.out, if_neg (by rw [hnb]; simp; omega)]
    have g3b : ¬ 16 < pnE := by omega
    clear hnb g1 HPE
    have hkc : k ≤ c := by omega
    go_wp2_with fail
    clear a0 a1 a2 a3 a4 g2b g1b
    go_loopw [8] (fun i wr => ∃ j : Nat, j ≤ k ∧ i = .int .i64 j ∧ (∀ q, q < j → mdupF l k q = false) ∧ Ext wq wr) (fun i _ => k - (intOf i).toNat)
    case atStart => exact ⟨0, Nat.zero_le _, rfl, fun q hq => absurd hq (Nat.not_lt_zero _), Ext.refl _⟩
    case round =>
      obtain ⟨j, hj, rfl, hall, hx⟩ := hrel
      have HAL2 := Lib.hid hall; have HX := Lib.hid hx; clear hall hx
      obtain ⟨a0, a1, a2, a3, a4⟩ := blk5 (HNB.out.ext HX.out)
      by_cases hjk : j < k
      · obtain ⟨bp', op', q, hA, hq, hcq⟩ := (HP.out.ext ((HX1.out.trans HXq.out).trans HX.out)) j (by have := HKL.out; omega)
        injection hA with hA
        injection hA with e1 e2
        subst e1; subst e2
        have HQJ : Hid ((gPm l j).nm = q.nm) := hq.nm.symm
        clear hq
        obtain ⟨qn, qAP, qnP, qcP, qAE, qnE, qcE, qpl, qmi⟩ := q
        obtain ⟨b0, b1, b2, b3, b4⟩ := hcq
        simp only at b0 b1 b2 b3 b4 HQJ
        cases heq : (qn.toList == pn.toList)
        · have HD : Hid (mdupF l k j = false) := by show _ = _; unfold mdupF; rw [HQJ.out, HQN.out, ← str_eq]; exact heq
          go_wp2_with fail
          go_quiet (fail)
          go_wp2_with fail
          go_roundw
          case rel => exact ⟨j + 1, by omega, by go_num, fun q hq => by
            rcases Nat.lt_succ_iff_lt_or_eq.1 hq with h | h
            · exact HAL2.out q h
            · subst h; exact HD.out, HX.out.drewN _⟩
          case measure => simp [intOf]; omega
        · have HD : Hid (mdupF l k j = true) := by show _ = _; unfold mdupF; rw [HQJ.out, HQN.out, ← str_eq]; exact heq
          have HR : Hid (SP = 7) := by
            have h1 : PE = 7 := by rw [HPE1.out]; unfold pm1; rw [if_pos (any_at hjk HD.out)]
            show _ = _; rw [HFA.out (by rw [h1]; decide), h1]
          go_wp2_with fail
          go_quiet (fail)
          go_wp2_with fail
          go_ret
          exact ⟨ret_int HR.out.symm, (HX1.out.trans HXq.out).trans (HX.out.drewN _)⟩
      obtain rfl : j = k := by omega
      have HPE2 : Hid (PE = pm2 x (gPm l j)) := by show _ = _; rw [HPE1.out]; unfold pm1; rw [if_neg (by rw [any_none HAL2.out]; simp)]
      clear HAL2 HPE1 hjk hj
      obtain ⟨c0, c1, c2, c3, c4, c5, c6⟩ := blk7 (HB1.out.ext (HXq.out.trans HX.out))
      go_wp2_with fail
      refine (HCI.out _ ⟨pn, pAP, pnP, pcP, pAE, pnE, pcE, ppl, pmi⟩ (gPm l j) ((HX1.out.trans HXq.out).trans HX.out) (HQ'.out.ext HX.out) (by rw [HQE.out, HQP.out]; exact HEQ.out)).mono ?_
      rintro e w3 ⟨rfl, he3⟩
      have HX3 := Lib.hid he3; clear he3
      clear a0 a1 a2 a3 a4 c0 c1 c2 c3 c4 c5 c6
      obtain ⟨IB, hIB⟩ : ∃ IB, IB = insB x (gPm l j) := ⟨_, rfl⟩
      rw [← hIB]
      have HIB := Lib.hid hIB; clear hIB
      cases IB
      · have HR : Hid (SP = 3) := by
          have h0 : pm2 x (gPm l j) = 3 := (pm2_or x (gPm l j)).resolve_right fun h => by rw [ins_yes h] at HIB; exact absurd HIB.out (by decide)
          have h1 : PE = 3 := by rw [HPE2.out, h0]
          show _ = _; rw [HFA.out (by rw [h1]; decide), h1]
        go_wp2_with fail
        go_ret
        exact ⟨ret_int HR.out.symm, ((HX1.out.trans HXq.out).trans HX.out).trans HX3.out⟩
      · have HZ : Hid (pomE x l j = 0) := by
          have h0 : pm2 x (gPm l j) = 0 := (pm2_or x (gPm l j)).resolve_left fun h => by rw [ins_no h] at HIB; exact absurd HIB.out (by decide)
          show _ = _; rw [← HPD.out, HPE2.out, h0]
        go_wp2_with fail
        go_roundw
        case rel => exact ⟨j + 1, by omega, by go_num, firstE_succ HALL.out HZ.out, (HXq.out.trans HX.out).trans HX3.out⟩
        case measure => simp [intOf]; omega
end Go.Proofs.YtkigmpholnfkbaaGreat
namespace Go.Proofs.YtkigmpholnfkbaaGreat
open Go.RowKit
theorem LtX.ll {x : StyX} (h : LtX x) : ∀ k, k < x.ps.length → (gPx x.ps k).p.es.length ≤ 1000 ∧ (gPx x.ps k).p.cs.length ≤ 1000 := fun k hk => ⟨Nat.le_trans (h.p k hk).1.e (by omega), Nat.le_trans (h.p k hk).1.c (by omega)⟩
set_option maxRecDepth 100000 in
set_option maxHeartbeats 6400000 in
theorem checksL_any (a : StyA) (x : StyX) (A : Option Addr) (n c : Nat) (l : List PomX) (w : World) (hs : StyXAt w a x)
    (hP : PomsAt w A l) (hl : l.length = n) (hc : n ≤ c) (hc' : c ≤ 9223372036854775807) :
    Calls Tryz.prog 3 #[a.val, .slice A n c] w fun e w' => e = .returned (.bool true) ∧ Ext w w' := by
  have HSM := Lib.hid (fun W (h : Ext w W) => small_any a x A n c l W (hs.ext h) (hP.ext h) hl (Nat.le_trans hc hc'))
  have HCA := Lib.hid (fun (hlt : LtX x) W (h : Ext w W) => spCheck_any a x A n c l W (hs.ext h) hlt.n hlt.zz (hP.ext h) hl hc hc')
  have HCB := Lib.hid (fun (hlt : LtX x) W (h : Ext w W) => r52Check_any a x A n c l W (hs.ext h) hlt.n hlt.zz hlt.ll (hP.ext h) hl hc hc')
  clear hs hP hl
  obtain ⟨nm, AS, nS, cS, AM, nM, cM, AP, nP, cP, AU, nU, cU, AK, nK, cK, AO, nO, cO⟩ := a
  simp only [StyA.val] at HSM HCA HCB ⊢
  obtain ⟨SP, hSP⟩ : ∃ y, y = spcE x l := ⟨_, rfl⟩
  rw [← hSP] at HCA HCB
  clear hSP
  go_enter Tryz.func3, Tryz.ntmps3
  go_wp2_with fail
  refine (HSM.out _ ((Ext.refl _).alloc _)).mono ?_
  rintro e w1 ⟨b, rfl, he1, hb⟩
  have HB1 : Hid (Blk 29 w1 w.heap.size [.string nm, .slice AS nS cS, .slice AM nM cM, .slice AP nP cP, .slice AU nU cU, .slice AK nK cK, .slice AO nO cO]) := (Blk.new' rfl).ext he1
  have HX1 := Lib.hid (((Ext.refl w).alloc _).trans he1)
  have HB := Lib.hid hb
  clear he1 hb HSM
  cases b
  · go_wp2_with fail
    refine (awake_any _).mono ?_
    rintro e w2 ⟨rfl, he2⟩
    go_wp2_with fail
    go_ret
    exact ⟨rfl, HX1.out.trans he2⟩
  obtain ⟨hlt, hfw⟩ := HB.out rfl
  have HA : Hid (∀ W, Ext w1 W → _) := Lib.hid (fun W (h : Ext w1 W) => HCA.out hlt W (HX1.out.trans h))
  have HBB : Hid (∀ W, Ext w1 W → _) := Lib.hid (fun W (h : Ext w1 W) => HCB.out hlt W (HX1.out.trans h))
  clear HCA HCB hlt hfw HB
  obtain ⟨c0, c1, c2, c3, c4, c5, c6⟩ := blk7 HB1.out
  have z0 := fun z : After w1 => After.cell c0 z
  have z1 := fun z : After w1 => After.cell c1 z
  have z2 := fun z : After w1 => After.cell c2 z
  have z3 := fun z : After w1 => After.cell c3 z
  have z4 := fun z : After w1 => After.cell c4 z
  have z5 := fun z : After w1 => After.cell c5 z
  have z6 := fun z : After w1 => After.cell c6 z
  have hee : (SP == SP) = true := by simp
  go_wp2_with fail
  refine region_ext (by kernel_rfl) (by kernel_rfl) ?_
  repeat (first
    | go_big_quiet_step (first
      | (go_at_call 13; exact after_call (HA.out _ (After.ext _)))
      | (go_at_call 14; exact after_call (HBB.out _ (After.ext _)))
      | (go_at_call 12; exact after_call (awake_any _)))
    | (go_big_quiet_want; go_simp; go_big_quiet_on))
  refine wpQuiet_nil ?_
  rintro w4 ⟨⟨_, he4⟩, rfl⟩
  go_wp2_with fail
  go_ret
  exact ⟨rfl, HX1.out.trans he4⟩
end Go.Proofs.YtkigmpholnfkbaaGreat
