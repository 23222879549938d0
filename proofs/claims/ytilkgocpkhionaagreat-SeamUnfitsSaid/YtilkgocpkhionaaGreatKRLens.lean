/- the reference: garmentref22.inside, edge, Lengths -/
import Derived.Test.YtilkgocpkhionaaGreatKSameI
import Derived.Test.YtilkgocpkhionaaGreatKLens2
import Derived.Test.YtilkgocpkhionaaGreatKRefN
/- the reference: garmentref10.Root -/
namespace Go.Proofs.YtilkgocpkhionaaGreat
open Go.RowKit
set_option maxRecDepth 100000 in
set_option maxHeartbeats 1600000 in
theorem rroot_any (n : Nat) (w : World) (hn : n < 9223372036854775808) :
    Calls Tryz.prog 66 #[.int .i64 n] w fun e w' => e = .returned (.int .i64 (rootN n)) ∧ w = w' := by
  have hr := rootN_is n (by omega)
  have HRR := Lib.hid hr; clear hr
  go_enter Tryz.func66, Tryz.ntmps66
  go_wp2_with fail
  go_loop [3, 4] (fun o k => ∃ o' j : Nat, o = .int .i64 o' ∧ k = .int .i64 ((j : Int) - 1) ∧ j ≤ 32 ∧ o' * o' ≤ n ∧ n < (o' + 2 ^ j) * (o' + 2 ^ j) ∧ o' + 2 ^ j ≤ 4294967296) (fun _ k => (intOf k + 1).toNat)
  case atStart => exact ⟨0, 32, rfl, rfl, by omega, by omega, by simp; omega, by simp⟩
  case round =>
    obtain ⟨o, j, rfl, rfl, hj, h0, h1, h2⟩ := hrel
    have H0 := Lib.hid h0; have H1 := Lib.hid h1
    clear h0 h1
    cases j with
    | zero =>
      go_wp2_with fail
      go_ret
      exact ⟨ret_int (by rw [root_one HRR.out.1 HRR.out.2 H0.out (by simpa using H1.out)]), rfl⟩
    | succ i =>
      obtain ⟨p, hp⟩ : ∃ p : Nat, p = 2 ^ i := ⟨_, rfl⟩
      have hp2 : 2 ^ (i + 1) = 2 * p := by rw [hp, Nat.pow_succ]; omega
      rw [hp2] at h2 H1
      have hpi : (2 : Int) ^ i = (p : Int) := by rw [hp]; simp
      have hp0 : 0 < p := by rw [hp]; exact Nat.pow_pos (by omega)
      have HPP := Lib.hid hp
      clear hp hp2
      have hki : (((i + 1 : Nat) : Int) - 1) = i := by omega
      rw [hki]
      clear hki
      have hi31 : i ≤ 31 := by omega
      have hm0 : ((i : Int) % 18446744073709551616) = i := by omega
      have hm1 : (((o : Int) + p) % 18446744073709551616) = (o : Int) + p := by omega
      have hm2 : ((n : Int) % 18446744073709551616) = n := by omega
      have hsq : (o + p) * (o + p) < 18446744073709551616 := by
        have := Nat.mul_le_mul (show o + p ≤ 4294967295 by omega) (show o + p ≤ 4294967295 by omega)
        omega
      have hsqi : ((((o : Int) + p) * ((o : Int) + p)) % 18446744073709551616) = ((o : Int) + p) * ((o : Int) + p) := by
        have e : (((o : Int) + p) * ((o : Int) + p)) = (((o + p) * (o + p) : Nat) : Int) := by simp
        rw [e]; omega
      have HSQ := Lib.hid hsq; clear hsq
      by_cases hc : (o + p) * (o + p) ≤ n
      · have hci : ((o : Int) + p) * ((o : Int) + p) ≤ n := by
          have e : (((o : Int) + p) * ((o : Int) + p)) = (((o + p) * (o + p) : Nat) : Int) := by simp
          rw [e]; omega
        have HC := Lib.hid hc; clear hc
        go_wp2_with fail
        refine ⟨⟨o + p, i, by simp, rfl, by omega, HC.out, ?_, ?_⟩, by simp [intOf]⟩
        · have h := H1.out
          rw [show o + 2 * p = o + p + p from by omega] at h
          rw [← HPP.out]; exact h
        · rw [← HPP.out]; omega
      · have hci : ¬ ((o : Int) + p) * ((o : Int) + p) ≤ n := by
          have e : (((o : Int) + p) * ((o : Int) + p)) = (((o + p) * (o + p) : Nat) : Int) := by simp
          rw [e]; omega
        have HC := Lib.hid hc; clear hc
        go_wp2_with fail
        refine ⟨⟨o, i, rfl, rfl, by omega, H0.out, ?_, ?_⟩, by simp [intOf]⟩
        · rw [← HPP.out]; have := HC.out; omega
        · rw [← HPP.out]; omega
theorem rroot_int (n : Int) (w : World) (h0 : 0 ≤ n) (h1 : n < 9223372036854775808) :
    Calls Tryz.prog 66 #[.int .i64 n] w fun e w' => e = .returned (.int .i64 (rootN n.toNat)) ∧ w = w' := by
  have h := rroot_any n.toNat w (by omega)
  rwa [Int.toNat_of_nonneg h0] at h
set_option maxHeartbeats 800000 in
theorem rsegment_any (p q : Spot) (w : World) (hp : inB p) (hq : inB q) :
    Calls Tryz.prog 56 #[SV p, SV q] w fun e w' => e = .returned (.int .i64 (seg p q)) ∧ Ext w w' := by
  obtain ⟨px, py⟩ := p; obtain ⟨qx, qy⟩ := q
  obtain ⟨p1, p2, p3, p4⟩ := hp; obtain ⟨q1, q2, q3, q4⟩ := hq
  have hs : ((sqN (px, py) (qx, qy) : Nat) : Int) = (qx - px) * (qx - px) + (qy - py) * (qy - py) := by
    have h1 := (sq_bound (d := qx - px) (by omega) (by omega)).1
    have h2 := (sq_bound (d := qy - py) (by omega) (by omega)).1
    unfold sqN; exact Int.toNat_of_nonneg (by simp only; omega)
  have h1 := sq_bound (d := qx - px) (by omega) (by omega)
  have h2 := sq_bound (d := qy - py) (by omega) (by omega)
  simp only at p1 p2 p3 p4 q1 q2 q3 q4
  go_enter Tryz.func56, Tryz.ntmps56
  go_wp2_with fail
  go_quiet (fail)
  go_wp2_with fail
  refine (rroot_int _ _ (by omega) (by omega)).mono ?_
  rintro e w1 ⟨rfl, rfl⟩
  go_wp2_with fail
  go_ret
  refine ⟨ret_int ?_, (((Ext.refl _).alloc _).alloc _).drewN _⟩
  unfold seg
  congr 2
  omega
set_option maxHeartbeats 1600000 in
theorem rtotal_any (A : Option Addr) (n c : Nat) (l : List Spot) (w : World) (ha : SpotsAt w A l) (hl : l.length = n) (h1n : 1 ≤ n) (h40 : n ≤ 40) (hin : ∀ k, k < l.length → inB (gS l k)) :
    Calls Tryz.prog 41 #[.slice A n c] w fun e w' => e = .returned (.int .i64 (lenTo l (n - 1))) ∧ Ext w w' := by
  have HL := Lib.hid hl; clear hl
  have HA := Lib.hid ha; clear ha
  have HIN := Lib.hid hin; clear hin
  go_enter Tryz.func41, Tryz.ntmps41
  go_wp2_with fail
  go_loopw [3, 4] (fun s i wr => ∃ k : Nat, k + 1 ≤ n ∧ i = .int .i64 ((k : Int) + 1) ∧ s = .int .i64 (lenTo l k) ∧ Ext w wr) (fun _ i _ => n - (intOf i).toNat)
  case atStart => exact ⟨0, h1n, rfl, rfl, Ext.refl _⟩
  case round =>
    obtain ⟨k, hk, rfl, rfl, hx⟩ := hrel
    by_cases hlt : k + 1 < n
    · have hb := lenTo_le HIN.out k (by rw [HL.out]; omega)
      have hg := seg_le (HIN.out k (by rw [HL.out]; omega)) (HIN.out (k + 1) (by rw [HL.out]; omega))
      have hgh := Lib.hid (HIN.out k (by rw [HL.out]; omega)); have hgi := Lib.hid (HIN.out (k + 1) (by rw [HL.out]; omega))
      obtain ⟨b, off, rfl, hc0, hc1⟩ := (HA.out.ext hx).g (k := k) (by rw [HL.out]; omega)
      obtain ⟨hd0, hd1⟩ := (HA.out.ext hx).at1 (k := k + 1) (by rw [HL.out]; omega)
      have hs1 : IntKind.i64.wrap ((k : Int) + 1 - 1) = k := (IntWalk.i64_in _ (by omega)).trans (by omega)
      have hs1' : IntKind.i64.wrap (k : Int) = k := IntWalk.i64_in _ (by omega)
      have hs2 : ((k : Int) + 1).toNat = k + 1 := by omega
      have hs3 : (k : Int) + 1 < n := by omega
      have hs3' : (k : Int) < n := by omega
      have hs4 : 0 ≤ (k : Int) + 1 := by omega
      have hs5 : IntKind.i64.wrap ((lenTo l k : Int) + seg (gS l k) (gS l (k + 1))) = (lenTo l k : Int) + seg (gS l k) (gS l (k + 1)) := IntWalk.i64_in _ (by omega)
      go_wp2_with fail
      have d0 := fun z : After wr => After.cell hc0 z
      have d1 := fun z : After wr => After.cell hc1 z
      have d2 := fun z : After wr => After.cell hd0 z
      have d3 := fun z : After wr => After.cell hd1 z
      refine region_ext (by kernel_rfl) (by kernel_rfl) ?_
      repeat (go_big_quiet_step (
        (go_at_call 56; exact after_call (rsegment_any (gS l k) (gS l (k + 1)) _ hgh.out hgi.out))))
      refine wpQuiet_nil ?_
      rintro w1 ⟨⟨_, he⟩, rfl⟩
      clear hs1 hs2 hs4
      go_wp2_with fail
      go_roundw
      case rel => exact ⟨k + 1, by omega, by go_num, by simp [lenTo], hx.trans he⟩
      case measure => simp [intOf]; omega
    · have hlt' : ¬ (k : Int) + 1 < n := by omega
      have hkn : k = n - 1 := by omega
      go_wp2_with fail
      go_ret
      exact ⟨rfl, hx⟩
set_option maxHeartbeats 800000 in
theorem rlength_any (A : Option Addr) (n c : Nat) (l : List Spot) (w : World) (ha : SpotsAt w A l) (hl : l.length = n) :
    Calls Tryz.prog 29 #[.slice A n c] w fun e w' => e = .returned (.tuple #[.int .i64 (lengthN l), .int .i64 (lcheck l)]) ∧ Ext w w' := by
  have HL := Lib.hid hl; clear hl
  have HA := Lib.hid ha; clear ha
  go_enter Tryz.func29, Tryz.ntmps29
  go_wp2_with fail
  refine (rcheck_any A n c l w HA.out HL.out).mono ?_
  rintro e w1 ⟨rfl, hx⟩
  by_cases hz : lcheck l = 0
  · obtain ⟨h2, h40, hin⟩ := lcheck_zero hz
    rw [HL.out] at h2 h40
    have HIN := Lib.hid hin; clear hin
    have HZ := Lib.hid hz
    rw [hz]
    clear hz
    go_wp2_with fail
    refine (rtotal_any A n c l _ (HA.out.ext hx) HL.out (by omega) h40 HIN.out).mono ?_
    rintro e w2 ⟨rfl, he2⟩
    go_wp2_with fail
    go_ret2
    exact ⟨by unfold lengthN; rw [HZ.out, if_neg (by simp), HL.out]; rfl, hx.trans he2⟩
  · have hd : (lcheck l != 0) = true := by simp [hz]
    have HZ := Lib.hid hz; clear hz
    go_wp2_with fail
    go_ret2
    exact ⟨by unfold lengthN; rw [if_pos HZ.out]; rfl, hx⟩
end Go.Proofs.YtilkgocpkhionaaGreat
/- garmentlaw22.light -/
namespace Go.Proofs.YtilkgocpkhionaaGreat
open Go.RowKit
structure LtP (p : Pc) (most : Nat) : Prop where
  e : p.es.length ≤ 20
  c : p.cs.length ≤ 20
  w : p.ws.length ≤ 20
  n : p.ns.length ≤ 20
  l : ∀ k, k < p.es.length → (gE p.es k).2.length ≤ most ∧ (gE p.es k).1.size ≤ 100
structure LtS (s : Sty) : Prop where
  P : s.ps.length ≤ 14
  K : s.ss.length ≤ 30
  p : ∀ k, k < s.ps.length → LtP (gPc s.ps k) 80
theorem lightP_any (a : PcA) (p : Pc) (most : Nat) (hm : most ≤ 1000) (w : World) (hp : PcAt w a p) :
    Calls Tryz.prog 12 #[a.val, .int .i64 (most : Int)] w fun e w' => ∃ b, e = .returned (.bool b) ∧ Ext w w' ∧ (b = true → LtP p most) :=
  (light_any a.nm a.AE a.AN a.AC a.AW a.nE a.cE a.nN a.cN a.nC a.cC a.nW a.cW a.gr a.mt p.es w most hm hp.e hp.le).mono fun e w' ⟨b, h1, h2, h3⟩ => ⟨b, h1, h2, fun hb => by
    obtain ⟨g1, g2, g3, g4, g5⟩ := h3 hb
    exact ⟨g1, by rw [hp.lc]; exact g2, by rw [hp.li]; exact g3, by rw [hp.ln]; exact g4, g5⟩⟩
def RetLt (w : World) (s : Sty) (e : Ending) (w' : World) : Prop := ∃ b, e = .returned (.bool b) ∧ Ext w w' ∧ (b = true → LtS s)
set_option maxRecDepth 100000 in
set_option maxHeartbeats 1600000 in
theorem lt22_any (a : StyA) (s : Sty) (w : World) (hs : StyAt w a s) :
    Calls Tryz.prog 5 #[a.val] w (RetLt w s) := by
  have HS := Lib.hid hs; clear hs
  obtain ⟨nm, AS, nS, cS, AM, nM, cM, AP, nP, cP, AU, nU, cU, AK, nK, cK, AO, nO, cO⟩ := a
  have HLP : Hid (s.ps.length = nP) := HS.out.lP
  have HLK : Hid (s.ss.length = nK) := HS.out.lK
  have HPS := Lib.hid HS.out.P
  simp only [StyA.val] at HPS ⊢
  by_cases h1 : 14 < nP
  · go_enter Tryz.func5, Tryz.ntmps5
    go_wp2_with fail
    go_ret
    exact ⟨_, rfl, (Ext.refl _).alloc _, fun h => by cases h⟩
  by_cases h2 : 30 < nK
  · go_enter Tryz.func5, Tryz.ntmps5
    go_wp2_with fail
    go_ret
    exact ⟨_, rfl, (Ext.refl _).alloc _, fun h => by cases h⟩
  go_enter Tryz.func5, Tryz.ntmps5
  go_wp2_with fail
  refine wp_at fun W0 hW0 => ?_
  have hB : Blk 29 W0 w.heap.size [.string nm, .slice AS nS cS, .slice AM nM cM, .slice AP nP cP, .slice AU nU cU, .slice AK nK cK, .slice AO nO cO] := by rw [hW0]; exact Blk.new' rfl
  have hx0 : Ext w W0 := by rw [hW0]; exact (Ext.refl _).alloc _
  have HB := Lib.hid hB; have HX0 := Lib.hid hx0; clear hW0 hB hx0
  go_loopw [3] (fun i wr => ∃ k : Nat, k ≤ nP ∧ i = .int .i64 k ∧ (∀ j, j < k → LtP (gPc s.ps j) 80) ∧ Ext W0 wr) (fun i _ => nP - (intOf i).toNat)
  case atStart => exact ⟨0, Nat.zero_le _, rfl, fun j hj => absurd hj (Nat.not_lt_zero _), Ext.refl _⟩
  case round =>
    obtain ⟨k, hk, rfl, hall, hx⟩ := hrel
    have HALL := Lib.hid hall; have HX := Lib.hid hx; clear hall hx
    obtain ⟨c0, c1, c2, c3, c4, c5, c6⟩ := blk7 (HB.out.ext HX.out)
    by_cases hlt : k < nP
    · obtain ⟨bp, op, q, hAP, hpA, hcA⟩ := (HPS.out.ext (HX0.out.trans HX.out)) k (by rw [HLP.out]; exact hlt)
      subst hAP
      have HC := Lib.hid (lightP_any q (gPc s.ps k) 80 (by omega) wr hpA)
      clear hpA
      obtain ⟨pnm, pAE, pnE, pcE, pgr, pAN, pnN, pcN, pAC, pnC, pcC, pAW, pnW, pcW, pmt⟩ := q
      obtain ⟨a0, a1, a2, a3, a4, a5, a6⟩ := hcA
      simp only [PcA.val] at HC a0 a1 a2 a3 a4 a5 a6
      go_wp2_with fail
      refine HC.out.mono ?_
      rintro e w1 ⟨b, rfl, he1, hb⟩
      clear a0 a1 a2 a3 a4 a5 a6 c0 c1 c2 c3 c4 c5 c6
      cases b
      · go_wp2_with fail
        go_ret
        exact ⟨_, rfl, (HX0.out.trans HX.out).trans he1, fun h => by cases h⟩
      · have HLT := Lib.hid (hb rfl); clear hb
        go_wp2_with fail
        go_roundw
        case rel => exact ⟨k + 1, by omega, by go_num, fun j hj => by
          rcases Nat.lt_succ_iff_lt_or_eq.1 hj with h | h
          · exact HALL.out j h
          · subst h; exact HLT.out, HX.out.trans he1⟩
        case measure => simp [intOf]; omega
    · obtain rfl : k = nP := by omega
      go_wp2_with fail
      go_ret
      exact ⟨_, rfl, HX0.out.trans HX.out, fun _ => ⟨by rw [HLP.out]; omega, by rw [HLK.out]; omega, fun j hj => HALL.out j (by rw [← HLP.out]; exact hj)⟩⟩
end Go.Proofs.YtilkgocpkhionaaGreat
namespace Go.Proofs.YtilkgocpkhionaaGreat
open Go.RowKit
set_option maxRecDepth 100000 in
set_option maxHeartbeats 800000 in
theorem rinside_any (a : StyA) (s : Sty) (p q : Int) (w : World) (hs : StyAt w a s) :
    Calls Tryz.prog 19 #[a.val, .int .i64 p, .int .i64 q] w fun e w' => e = .returned (.bool (edgeB s p q)) ∧ Ext w w' := by
  obtain ⟨nm, AS, nS, cS, AM, nM, cM, AP, nP, cP, AU, nU, cU, AK, nK, cK, AO, nO, cO⟩ := a
  have HL : Hid (s.ps.length = nP) := hs.lP
  have HP := Lib.hid hs.P
  clear hs
  simp only [StyA.val] at HP ⊢
  by_cases h0 : 0 ≤ p
  · by_cases h1 : p < nP
    · by_cases h2 : 0 ≤ q
      · obtain ⟨k, rfl⟩ := Int.eq_ofNat_of_zero_le h0
        have hk : k < nP := by omega
        obtain ⟨b, off, pa, hA, hpc, hcc⟩ := (HP.out.ext ((Ext.refl w).alloc (.cells #[.string nm, .slice AS nS cS, .slice AM nM cM, .slice AP nP cP, .slice AU nU cU, .slice AK nK cK, .slice AO nO cO] 29))) k (by rw [HL.out]; exact hk)
        subst hA
        have c1 := hcc.c1
        obtain ⟨nE, hnE⟩ : ∃ n, n = pa.nE := ⟨_, rfl⟩
        rw [← hnE] at c1
        have HE : Hid ((gPc s.ps k).es.length = nE) := by show _ = _; rw [hnE]; exact hpc.le
        clear hpc hcc hnE
        by_cases h3 : q < nE
        · go_enter Tryz.func19, Tryz.ntmps19
          go_wp2_with fail
          go_ret
          exact ⟨ret_bool (by symm; unfold edgeB; rw [HL.out, Int.toNat_natCast, HE.out]; exact decide_eq_true (by omega)), (Ext.refl _).alloc _⟩
        · go_enter Tryz.func19, Tryz.ntmps19
          go_wp2_with fail
          go_ret
          exact ⟨ret_bool (by symm; unfold edgeB; rw [HL.out, Int.toNat_natCast, HE.out]; exact decide_eq_false (by omega)), (Ext.refl _).alloc _⟩
      · go_enter Tryz.func19, Tryz.ntmps19
        go_wp2_with fail
        go_ret
        exact ⟨ret_bool (by symm; unfold edgeB; rw [HL.out]; exact decide_eq_false (by omega)), (Ext.refl _).alloc _⟩
    · go_enter Tryz.func19, Tryz.ntmps19
      go_wp2_with fail
      go_ret
      exact ⟨ret_bool (by symm; unfold edgeB; rw [HL.out]; exact decide_eq_false (by omega)), (Ext.refl _).alloc _⟩
  · go_enter Tryz.func19, Tryz.ntmps19
    go_wp2_with fail
    go_ret
    exact ⟨ret_bool (by symm; unfold edgeB; rw [HL.out]; exact decide_eq_false (by omega)), (Ext.refl _).alloc _⟩
set_option maxRecDepth 100000 in
set_option maxHeartbeats 800000 in
theorem redge_any (a : PcA) (p : Pc) (m : Int) (k : Nat) (w : World) (hp : PcAt w a p) (hk : k < p.es.length) (hb1 : p.es.length ≤ 1000) (hb2 : p.cs.length ≤ 1000) :
    Calls Tryz.prog 20 #[a.val, .int .i64 m, .int .i64 (k : Int)] w fun e w' => e = .returned (.tuple #[.int .i64 (lnN p m k : Int), .int .i64 (gradedR p.es p.cs m)]) ∧ Ext w w' := by
  obtain ⟨nm, AE, nE, cE, gr, AN, nN, cN, AC, nC, cC, AW, nW, cW, mt⟩ := a
  obtain ⟨es, cs, ws, ns⟩ := p
  have HP := Lib.hid hp; clear hp
  simp only at hk hb1 hb2
  have HLE : Hid (es.length = nE) := HP.out.le
  have HLC : Hid (cs.length = nC) := HP.out.lc
  have HK := Lib.hid hk
  rw [HLE.out] at hk hb1
  rw [HLC.out] at hb2
  simp only [PcA.val]
  go_enter Tryz.func20, Tryz.ntmps20
  go_wp2_with fail
  refine (rgraded_any nm AE AN AC AW nE cE nN cN nC cC nW cW gr m mt es cs _ (HP.out.e.ext ((Ext.refl _).alloc _)) HP.out.le (HP.out.c.ext ((Ext.refl _).alloc _)) HP.out.lc hb1 hb2).mono ?_
  rintro e w1 ⟨v1, rfl, hv, hv', he⟩
  have HX1 := Lib.hid (((Ext.refl w).alloc _).trans he); clear he
  have HLN : Hid (lnN ⟨es, cs, ws, ns⟩ m k = if gradedR es cs m ≠ 0 then 0 else lengthN (gE (gradedE es cs m) k).2) := rfl
  by_cases hz : gradedR es cs m = 0
  · have hO := hv hz
    have HLC := Lib.hid (graded_lines hz HK.out)
    obtain ⟨A1, c1, hvf, hE1, _, _⟩ := OwnE.slice' (n := nE) hO (by rw [gradedE_len]; exact HLE.out)
    subst hvf
    obtain ⟨b, off, L, cL, hA1, d0, d1, hS, _, _⟩ := hE1.g (k := k) (by rw [gradedE_len]; exact HK.out)
    subst hA1
    obtain ⟨l, hl⟩ : ∃ l, l = (gE (gradedE es cs m) k).2 := ⟨_, rfl⟩
    rw [← hl] at d1 hS HLN HLC
    rw [hz] at HLN ⊢
    have HZ := Lib.hid hz; have HSp := Lib.hid hS; clear hv hv' hz hO hE1 hS hl d0
    obtain ⟨n, hn⟩ : ∃ n, n = l.length := ⟨_, rfl⟩
    rw [← hn] at d1
    have HN := Lib.hid hn; clear hn
    go_wp2_with fail
    refine (rlength_any L n cL l _ HSp.out HN.out.symm).mono ?_
    rintro e w2 ⟨rfl, he2⟩
    rw [HLC.out]
    go_wp2_with fail
    go_ret2
    exact ⟨by rw [HLN.out, if_neg (by decide), HZ.out]; rfl, HX1.out.trans he2⟩
  · have hvf := hv' hz
    subst hvf
    have hzb : (gradedR es cs m != 0) = true := by simp [hz]
    obtain ⟨x, hx⟩ : ∃ x, x = gradedR es cs m := ⟨_, rfl⟩
    rw [← hx] at hz hzb HLN ⊢
    have HZ := Lib.hid hz; have HGX := Lib.hid hx; clear hv hv' hz hx
    go_wp2_with fail
    go_ret2
    exact ⟨by rw [HLN.out, if_pos HZ.out, ← HGX.out]; rfl, HX1.out⟩
theorem redge_int (a : PcA) (p : Pc) (m k : Int) (w : World) (hp : PcAt w a p) (h0 : 0 ≤ k) (hk : k < p.es.length) (hb : LtP p 80) :
    Calls Tryz.prog 20 #[a.val, .int .i64 m, .int .i64 k] w fun e w' => e = .returned (.tuple #[.int .i64 (lnN p m k.toNat : Int), .int .i64 (gradedR p.es p.cs m)]) ∧ Ext w w' := by
  obtain ⟨j, rfl⟩ := Int.eq_ofNat_of_zero_le h0
  exact redge_any a p m j w hp (by omega) (by have := hb.e; omega) (by have := hb.c; omega)
end Go.Proofs.YtilkgocpkhionaaGreat
