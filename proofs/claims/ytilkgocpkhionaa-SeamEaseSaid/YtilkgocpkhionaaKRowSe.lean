/- The law SeamEase: for every input it returns true and leaves its arguments as they were. No conditions. -/
import Derived.Test.YtilkgocpkhionaaRows
import Derived.OpenShut
import Derived.Test.YtilkgocpkhionaaKAlive
import Derived.Test.YtilkgocpkhionaaKOpenS
/- garmentlaw22.light -/
namespace Go.Proofs.Ytilkgocpkhionaa
open Go.RowKit
structure LtP (p : Pc) (most : Nat) : Prop where
  e : p.es.length ≤ 20
  c : p.cs.length ≤ 20
  w : p.ws.length ≤ 20
  n : p.ns.length ≤ 20
  l : ∀ k, k < p.es.length → (gE p.es k).2.length ≤ most ∧ (gE p.es k).1.size ≤ 100
structure LtS (s : Sty) : Prop where
  P : s.ps.length ≤ 14
  K : s.ss.length ≤ 30
  p : ∀ k, k < s.ps.length → LtP (gPc s.ps k) 80
theorem lightP_any (a : PcA) (p : Pc) (most : Nat) (hm : most ≤ 1000) (w : World) (hp : PcAt w a p) :
    Calls Try.prog 19 #[a.val, .int .i64 (most : Int)] w fun e w' => ∃ b, e = .returned (.bool b) ∧ Ext w w' ∧ (b = true → LtP p most) :=
  (light_any a.nm a.AE a.AN a.AC a.AW a.nE a.cE a.nN a.cN a.nC a.cC a.nW a.cW a.gr a.mt p.es w most hm hp.e hp.le).mono fun e w' ⟨b, h1, h2, h3⟩ => ⟨b, h1, h2, fun hb => by
    obtain ⟨g1, g2, g3, g4, g5⟩ := h3 hb
    exact ⟨g1, by rw [hp.lc]; exact g2, by rw [hp.li]; exact g3, by rw [hp.ln]; exact g4, g5⟩⟩
def RetLt (w : World) (s : Sty) (e : Ending) (w' : World) : Prop := ∃ b, e = .returned (.bool b) ∧ Ext w w' ∧ (b = true → LtS s)
set_option maxRecDepth 100000 in
set_option maxHeartbeats 1600000 in
theorem lt22_any (a : StyA) (s : Sty) (w : World) (hs : StyAt w a s) :
    Calls Try.prog 15 #[a.val] w (RetLt w s) := by
  have HS := Lib.hid hs; clear hs
  obtain ⟨nm, AS, nS, cS, AM, nM, cM, AP, nP, cP, AU, nU, cU, AK, nK, cK, AO, nO, cO⟩ := a
  have HLP : Hid (s.ps.length = nP) := HS.out.lP
  have HLK : Hid (s.ss.length = nK) := HS.out.lK
  have HPS := Lib.hid HS.out.P
  simp only [StyA.val] at HPS ⊢
  by_cases h1 : 14 < nP
  · go_enter Try.func15, Try.ntmps15
    go_wp2_with fail
    go_ret
    exact ⟨_, rfl, (Ext.refl _).alloc _, fun h => by cases h⟩
  by_cases h2 : 30 < nK
  · go_enter Try.func15, Try.ntmps15
    go_wp2_with fail
    go_ret
    exact ⟨_, rfl, (Ext.refl _).alloc _, fun h => by cases h⟩
  go_enter Try.func15, Try.ntmps15
  go_wp2_with fail
  refine wp_at fun W0 hW0 => ?_
  have hB : Blk 46 W0 w.heap.size [.string nm, .slice AS nS cS, .slice AM nM cM, .slice AP nP cP, .slice AU nU cU, .slice AK nK cK, .slice AO nO cO] := by rw [hW0]; exact Blk.new' rfl
  have hx0 : Ext w W0 := by rw [hW0]; exact (Ext.refl _).alloc _
  have HB := Lib.hid hB; have HX0 := Lib.hid hx0; clear hW0 hB hx0
  go_loopw [3] (fun i wr => ∃ k : Nat, k ≤ nP ∧ i = .int .i64 k ∧ (∀ j, j < k → LtP (gPc s.ps j) 80) ∧ Ext W0 wr) (fun i _ => nP - (intOf i).toNat)
  case atStart => exact ⟨0, Nat.zero_le _, rfl, fun j hj => absurd hj (Nat.not_lt_zero _), Ext.refl _⟩
  case round =>
    obtain ⟨k, hk, rfl, hall, hx⟩ := hrel
    have HALL := Lib.hid hall; have HX := Lib.hid hx; clear hall hx
    obtain ⟨c0, c1, c2, c3, c4, c5, c6⟩ := blk7 (HB.out.ext HX.out)
    by_cases hlt : k < nP
    · obtain ⟨bp, op, q, hAP, hpA, hcA⟩ := (HPS.out.ext (HX0.out.trans HX.out)) k (by rw [HLP.out]; exact hlt)
      subst hAP
      have HC := Lib.hid (lightP_any q (gPc s.ps k) 80 (by omega) wr hpA)
      clear hpA
      obtain ⟨pnm, pAE, pnE, pcE, pgr, pAN, pnN, pcN, pAC, pnC, pcC, pAW, pnW, pcW, pmt⟩ := q
      obtain ⟨a0, a1, a2, a3, a4, a5, a6⟩ := hcA
      simp only [PcA.val] at HC a0 a1 a2 a3 a4 a5 a6
      go_wp2_with fail
      refine HC.out.mono ?_
      rintro e w1 ⟨b, rfl, he1, hb⟩
      clear a0 a1 a2 a3 a4 a5 a6 c0 c1 c2 c3 c4 c5 c6
      cases b
      · go_wp2_with fail
        go_ret
        exact ⟨_, rfl, (HX0.out.trans HX.out).trans he1, fun h => by cases h⟩
      · have HLT := Lib.hid (hb rfl); clear hb
        go_wp2_with fail
        go_roundw
        case rel => exact ⟨k + 1, by omega, by go_num, fun j hj => by
          rcases Nat.lt_succ_iff_lt_or_eq.1 hj with h | h
          · exact HALL.out j h
          · subst h; exact HLT.out, HX.out.trans he1⟩
        case measure => simp [intOf]; omega
    · obtain rfl : k = nP := by omega
      go_wp2_with fail
      go_ret
      exact ⟨_, rfl, HX0.out.trans HX.out, fun _ => ⟨by rw [HLP.out]; omega, by rw [HLK.out]; omega, fun j hj => HALL.out j (by rw [← HLP.out]; exact hj)⟩⟩
end Go.Proofs.Ytilkgocpkhionaa
/- SeamEase returns true -/
namespace Go.Proofs.Ytilkgocpkhionaa
open Go.RowKit
theorem unfTo_prefix (s : Sty) (z : Int) {k m : Nat} (h : k ≤ m) : ∃ r, unfTo s z m = unfTo s z k ++ r := by
  induction m with
  | zero => obtain rfl : k = 0 := by omega
            exact ⟨[], by simp⟩
  | succ m ih =>
    rcases Nat.lt_or_ge m k with h1 | h1
    · obtain rfl : k = m + 1 := by omega
      exact ⟨[], by simp⟩
    · obtain ⟨r, hr⟩ := ih h1
      cases hu : unfF s z m
      · exact ⟨r, by rw [unfTo_no hu, hr]⟩
      · exact ⟨r ++ [(m : Int)], by rw [unfTo_yes hu, hr, List.append_assoc]⟩
theorem unfTo_at {s : Sty} {z : Int} {k m : Nat} (h : k < m) (hu : unfF s z k = true) : (unfTo s z k).length < (unfTo s z m).length ∧ gI (unfTo s z m) (unfTo s z k).length = (k : Int) := by
  obtain ⟨r, hr⟩ := unfTo_prefix s z (show k + 1 ≤ m from h)
  rw [unfTo_yes hu] at hr
  rw [hr]
  refine ⟨by simp, ?_⟩
  rw [gI_eq (by simp)]
  simp
theorem unfE_each {s : Sty} {z : Int} (h : unfE s z = 0) {k : Nat} (hk : k < s.ss.length) : (lensV s z (k : Int)).2.2 = 0 := by
  unfold unfE at h
  split at h
  · cases h
  · exact (firstE_zero _ _).1 h k hk
set_option maxRecDepth 100000 in
set_option maxHeartbeats 3200000 in
theorem easeL_any (a : StyA) (s : Sty) (z : Int) (w : World) (hs : StyAt w a s) :
    Calls Try.prog 9 #[a.val, .int .i64 z] w fun e w' => e = .returned (.bool true) ∧ Ext w w' := by
  have HS := Lib.hid hs; clear hs
  have H1 := Lib.hid (fun W (h : Ext w W) => lt22_any a s W (HS.out.ext h))
  have H2 := Lib.hid (fun W (h : Ext w W) (hl : LtS s) => unfit_any a s z W (HS.out.ext h) (by have := hl.K; rw [HS.out.lK] at this; omega))
  have H3 := Lib.hid (fun k W (h : Ext w W) => lengths_any a s z k W (HS.out.ext h))
  obtain ⟨nm, AS, nS, cS, AM, nM, cM, AP, nP, cP, AU, nU, cU, AK, nK, cK, AO, nO, cO⟩ := a
  have HLK : Hid (s.ss.length = nK) := HS.out.lK
  simp only [StyA.val] at H1 H2 H3 ⊢
  go_enter Try.func9, Try.ntmps9
  go_wp2_with fail
  refine (H1.out _ ((Ext.refl _).alloc _)).mono ?_
  rintro e w1 ⟨b, rfl, he1, hb⟩
  have HB1 : Hid (Blk 46 w1 w.heap.size [.string nm, .slice AS nS cS, .slice AM nM cM, .slice AP nP cP, .slice AU nU cU, .slice AK nK cK, .slice AO nO cO]) := (Blk.new' rfl).ext he1
  have HX1 := Lib.hid (((Ext.refl w).alloc _).trans he1)
  clear he1
  cases b
  · clear hb
    go_wp2_with fail
    refine (alive_any _).mono ?_
    rintro e w2 ⟨rfl, he2⟩
    go_wp2_with fail
    go_ret
    exact ⟨rfl, HX1.out.trans he2⟩
  have HLT := Lib.hid (hb rfl); clear hb
  have hK30 : (unfL s z).length ≤ 30 := Nat.le_trans (unfTo_len s z s.ss.length) HLT.out.K
  have hn30 : nK ≤ 30 := by rw [← HLK.out]; exact HLT.out.K
  obtain ⟨c0, c1, c2, c3, c4, c5, c6⟩ := blk7 HB1.out
  go_wp2_with fail
  refine (H2.out _ HX1.out HLT.out).mono ?_
  rintro e w2 ⟨v2, rfl, hv2, hv2', he2⟩
  have HB2 := Lib.hid (HB1.out.ext he2); have HX2 := Lib.hid (HX1.out.trans he2)
  clear he2 c0 c1 c2 c3 c4 c5 c6
  by_cases hz : unfE s z = 0
  rotate_left
  · have hvf := hv2' hz
    subst hvf
    have hzb : (unfE s z != 0) = true := by simp [hz]
    obtain ⟨x, hx⟩ : ∃ x, x = unfE s z := ⟨_, rfl⟩
    rw [← hx] at hzb ⊢
    clear hv2 hv2' hz hx
    go_wp2_with fail
    refine (alive_any _).mono ?_
    rintro e w3 ⟨rfl, he3⟩
    go_wp2_with fail
    go_ret
    exact ⟨rfl, HX2.out.trans he3⟩
  have hO2 := hv2 hz
  obtain ⟨L, hL⟩ : ∃ L, L = unfL s z := ⟨_, rfl⟩
  rw [← hL] at hK30 hO2
  obtain ⟨n, hn⟩ : ∃ n, L.length = n := ⟨_, rfl⟩
  obtain ⟨A2, c2', hvf, hE2, _⟩ := OwnI.slice' (n := n) hO2 hn
  subst hvf
  rw [hn] at hK30
  have HZ := Lib.hid hz
  have HLL : Hid (L = unfTo s z nK) := by show _ = _; rw [hL]; unfold unfL; rw [HLK.out]
  have HN := Lib.hid hn; have HE2 := Lib.hid hE2
  rw [hz]
  clear hv2 hv2' hO2 hE2 hn hL hz
  go_wp2_with fail
  go_loopw [7, 8] (fun m i wr => ∃ k : Nat, k ≤ nK ∧ i = .int .i64 k ∧ m = .int .i64 ((unfTo s z k).length : Int) ∧ Ext w2 wr) (fun _ i _ => nK - (intOf i).toNat)
  case atStart => exact ⟨0, Nat.zero_le _, rfl, rfl, Ext.refl _⟩
  case round =>
    obtain ⟨k, hk, rfl, rfl, hx⟩ := hrel
    have HX := Lib.hid hx; clear hx
    obtain ⟨c0, c1, c2, c3, c4, c5, c6⟩ := blk7 (HB2.out.ext HX.out)
    have hlen := unfTo_len s z k
    by_cases hlt : k < nK
    · have HEZ := Lib.hid (unfE_each HZ.out (k := k) (by rw [HLK.out]; exact hlt))
      have HATT := Lib.hid (fun hu => unfTo_at (s := s) (z := z) hlt hu)
      obtain ⟨N, hN⟩ : ∃ N, N = (unfTo s z k).length := ⟨_, rfl⟩
      rw [← hN] at hlen HATT ⊢
      have HNN := Lib.hid hN; clear hN
      go_wp2_with fail
      refine (H3.out (k : Int) _ (HX2.out.trans HX.out)).mono ?_
      rintro e w3 ⟨rfl, he3⟩
      have HX3 := Lib.hid (HX.out.trans he3)
      clear he3 c0 c1 c2 c3 c4 c5 c6
      obtain ⟨bk, ok, hAK, hsm⟩ := (HS.out.K.ext (HX2.out.trans HX3.out)) k (by rw [HLK.out]; exact hlt)
      simp only at hAK
      subst hAK
      obtain ⟨es, hes⟩ : ∃ es, es = (gSm s.ss k).ease := ⟨_, rfl⟩
      have k5 := hsm.c5
      rw [← hes] at k5
      have HES := Lib.hid hes.symm
      clear hsm hes
      obtain ⟨c0, c1, c2, c3, c4, c5, c6⟩ := blk7 (HB2.out.ext HX3.out)
      obtain ⟨bd1, bd2, bd3, bd4⟩ := lensV_bd s z k
      obtain ⟨V, hV⟩ : ∃ V, V = lensV s z k := ⟨_, rfl⟩
      have HV := Lib.hid hV
      have hE := HEZ.out
      rw [← hV] at bd1 bd2 bd3 bd4 hE ⊢
      clear hV
      obtain ⟨LA, LB, E⟩ := V
      simp only at bd1 bd2 bd3 bd4 hE
      subst hE
      simp only [LenV]
      have HUF : Hid (unfF s z k = decide (es < gapN LA LB)) := by show _ = _; unfold unfF; rw [HES.out, ← HV.out]
      have wA : IntKind.i64.wrap (LA - LB) = LA - LB := IntWalk.i64_in _ (by omega)
      have wB : IntKind.i64.wrap (LB - LA) = LB - LA := IntWalk.i64_in _ (by omega)
      by_cases hm : LA - LB < LB - LA
      · by_cases hu : es < LB - LA
        · have hU : unfF s z k = true := by rw [HUF.out]; exact decide_eq_true (by unfold gapN; rw [if_pos hm]; exact hu)
          obtain ⟨h1, h2⟩ := HATT.out hU
          rw [← HLL.out, HN.out] at h1
          rw [← HLL.out] at h2
          have HUY := Lib.hid (unfTo_yes hU)
          clear hU
          obtain ⟨bl, ol, hAL, l0⟩ := (HE2.out.ext HX3.out).g (k := N) (by rw [HN.out]; exact h1)
          subst hAL
          rw [h2] at l0
          clear h2
          have hge : ¬ (n : Int) ≤ N := by omega
          have hkk : ((k : Int) != k) = false := by simp
          go_wp2_with fail
          go_roundw
          case rel => exact ⟨k + 1, by omega, by go_num, by rw [HUY.out, List.length_append, ← HNN.out]; go_num, HX3.out⟩
          case measure => simp [intOf]; omega
        · have hU : unfF s z k = false := by rw [HUF.out]; exact decide_eq_false (by unfold gapN; rw [if_pos hm]; exact hu)
          have HUN := Lib.hid (unfTo_no hU)
          clear hU
          go_wp2_with fail
          go_roundw
          case rel => exact ⟨k + 1, by omega, by go_num, by rw [HUN.out, ← HNN.out], HX3.out⟩
          case measure => simp [intOf]; omega
      · by_cases hu : es < LA - LB
        · have hU : unfF s z k = true := by rw [HUF.out]; exact decide_eq_true (by unfold gapN; rw [if_neg hm]; exact hu)
          obtain ⟨h1, h2⟩ := HATT.out hU
          rw [← HLL.out, HN.out] at h1
          rw [← HLL.out] at h2
          have HUY := Lib.hid (unfTo_yes hU)
          clear hU
          obtain ⟨bl, ol, hAL, l0⟩ := (HE2.out.ext HX3.out).g (k := N) (by rw [HN.out]; exact h1)
          subst hAL
          rw [h2] at l0
          clear h2
          have hge : ¬ (n : Int) ≤ N := by omega
          have hkk : ((k : Int) != k) = false := by simp
          go_wp2_with fail
          go_roundw
          case rel => exact ⟨k + 1, by omega, by go_num, by rw [HUY.out, List.length_append, ← HNN.out]; go_num, HX3.out⟩
          case measure => simp [intOf]; omega
        · have hU : unfF s z k = false := by rw [HUF.out]; exact decide_eq_false (by unfold gapN; rw [if_neg hm]; exact hu)
          have HUN := Lib.hid (unfTo_no hU)
          clear hU
          go_wp2_with fail
          go_roundw
          case rel => exact ⟨k + 1, by omega, by go_num, by rw [HUN.out, ← HNN.out], HX3.out⟩
          case measure => simp [intOf]; omega
    · obtain rfl : k = nK := by omega
      have hnn : (unfTo s z k).length = n := by rw [← HLL.out]; exact HN.out
      rw [hnn]
      have hself : ((n : Int) == n) = true := by simp
      go_wp2_with fail
      refine (alive_any _).mono ?_
      rintro e w4 ⟨rfl, he4⟩
      go_wp2_with fail
      go_ret
      exact ⟨rfl, (HX2.out.trans HX.out).trans he4⟩
end Go.Proofs.Ytilkgocpkhionaa
namespace Go.Proofs.Ytilkgocpkhionaa
open Go.ChangeShapes Go.WideShapes Go.ChangeAt Go.RowKit Go.Deep Go.Joins
set_option maxRecDepth 100000 in
theorem seamEase_lifted (os : Os) (started : os.Started) (H : Type) (enc : TypeId × Value → H) :
    ReturnsInHanded {} Try.checked os 9 .any (Rows.seamEaseSpec.pre6 enc Try.prog Try.f9 Rows.seamEaseRow.domain false) (Rows.seamEaseSpec.post enc Try.prog Try.f9 false true false false) := by
  refine returnsInHanded_of_change (C := Try.checked) Try.own started (by kernel_rfl) Try.func9
    (ChangeSpec.witness6 (enc := enc) (C := Try.checked) false ⟨#[], #[.agg #[.string ⟨#[]⟩, .slice none 0 0, .slice none 0 0, .slice none 0 0, .slice none 0 0, .slice none 0 0, .slice none 0 0], .int .i64 0], []⟩ 8 (by kernel_rfl) (by kernel_rfl) (by kernel_rfl) (by kernel_rfl)) ?_
  intro W base args ds gs before hval0 hW hcnd _
  have hval : ∀ (j : Nat) t v, Try.f9.params[j]? = some t → args[j]? = some v → Value.okWide Try.prog W .any base t v := hval0
  have hW' := hW
  obtain ⟨p, q, hA0, hV, rfl, hfz, hnd⟩ := hW
  have hA : DataW.TrodAll enc Try.prog W 0 (fun _ => true) true Try.f9.params.toList args.toList ds p := hA0
  rw [Try.params9] at hA hval
  obtain ⟨v0, vs0, d0, ds0, p0, q0, hargs, rfl, rfl, h0, r0⟩ := trodAll_cons hA
  obtain ⟨v1, vs1, d1, ds1, p1, q1, rfl, rfl, rfl, h1, r1⟩ := trodAll_cons r0
  obtain ⟨rfl, rfl, rfl⟩ := trodAll_nil r1
  obtain rfl : args = #[v0, v1] := by cases args; simp_all
  obtain ⟨rfl, rfl⟩ := trodVars_none hV
  have k0 := h0
  have lt0 : ∀ x ∈ p0, x.block < W.heap.size := by obtain ⟨m, hm⟩ := k0; exact DataW.trod_lt m _ _ _ hm
  obtain ⟨a0, s0, hv0, hS0, wS0⟩ := style_open (hval 0 46 v0 rfl rfl) h0
  subst hv0
  have k1 := h1
  have lt1 : ∀ x ∈ p1, x.block < W.heap.size := by obtain ⟨m, hm⟩ := k1; exact DataW.trod_lt m _ _ _ hm
  obtain ⟨a1, hv1, wf1⟩ := int_open (hval 1 3 v1 rfl rfl) h1
  subst hv1
  clear hA0 hval0
  refine (easeL_any a0 s0 a1 W hS0).mono fun e W' ⟨he, bel⟩ => ?_
  subst he
  exact ⟨_, rfl, _, _, _, [], _, [], hW', trodAll_mk1 (shut_bool Try.underlying4 _), (trodAll_cons_mk (Below.trod Try.laidOut (by kernel_rfl) (of_decide_eq_true (by kernel_rfl)) k0 bel lt0) (trodAll_cons_mk (Below.trod Try.laidOut (by kernel_rfl) (of_decide_eq_true (by kernel_rfl)) k1 bel lt1) trodAll_mk0)), rfl, Below.frame bel _, fun h => by cases h⟩
theorem seamEase_holds : Rows.SeamEaseSaid :=
  OpenClaim.holds_of_wide 9 Try.f9 rfl rfl rfl rfl rfl rfl rfl ⟨rfl, rfl, rfl, rfl, rfl⟩ rfl rfl rfl rfl rfl (by kernel_rfl) Try.func9 (by kernel_rfl)
    (of_decide_eq_true (by kernel_rfl)) (by unfold Func.isWrapper; first | (rw [if_pos (by decide +kernel)]; kernel_rfl) | (rw [if_neg (by decide +kernel)]; exact ⟨rfl, rfl⟩))
    (fun os started H enc _ => seamEase_lifted os started H enc)
end Go.Proofs.Ytilkgocpkhionaa

