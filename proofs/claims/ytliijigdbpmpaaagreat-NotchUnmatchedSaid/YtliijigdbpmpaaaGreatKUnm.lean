/- notch.Unmatched -/
import Derived.Deep.RegionHeld3
import Derived.Deep.AppendLies
import Derived.Test.YtliijigdbpmpaaaGreatKAlone
import Derived.Test.YtliijigdbpmpaaaGreatKPlaced
import Derived.Test.YtliijigdbpmpaaaGreatKLens2
namespace Go.Proofs.YtliijigdbpmpaaaGreat
open Go.RowKit
def isscells (l : List Iss) : List Value := l.flatMap fun s => [.int .i64 s.1, .int .i64 s.2.1, .int .i64 s.2.2]
theorem isscells_append (a b : List Iss) : isscells (a ++ b) = isscells a ++ isscells b := by simp [isscells]
def OwnK (w : World) (base : Nat) (v : Value) (l : List Iss) : Prop := w.ownsRow base 59 3 v l.length (isscells l)
theorem issue_info : (Tryz.prog.info? 59).map (fun i => (i.zero, i.size, i.bytes)) = some (some (.agg #[.int .i64 0, .int .i64 0, .int .i64 0]), 3, 24) := by kernel_rfl
theorem seamIss_len {s : Sty} {z : Int} {k : Nat} (h1 : (sdA s z k).ns.length ≤ 16) (h2 : (sdB s z k).ns.length ≤ 16) : (seamIss s z k).length ≤ 32 := by
  unfold seamIss issK
  rw [List.length_append, List.length_map, List.length_map]
  have a := alnTo_len (sdA s z k) (sdB s z k) (gSm s.ss k).rev (sdA s z k).ns.length
  have b := alnTo_len (sdB s z k) (sdA s z k) (gSm s.ss k).rev (sdB s z k).ns.length
  unfold alnL
  omega
theorem issK_take {kind : Int} {k : Nat} {l : List Nat} {j : Nat} (hj : j < l.length) : issK kind k (l.take (j + 1)) = issK kind k (l.take j) ++ [(kind, (k : Int), ((l[j] : Nat) : Int))] := by
  unfold issK
  rw [List.take_add_one, List.map_append]
  simp [hj]
theorem castL_get {l : List Nat} {j : Nat} (hj : j < l.length) : gI (castL l) j = ((l[j] : Nat) : Int) := by
  rw [gI_eq (by rw [castL_len]; exact hj)]; simp [castL]
def RetUm (w : World) (s : Sty) (z : Int) (e : Ending) (w' : World) : Prop :=
  ∃ v, e = .returned (.tuple #[v, .int .i64 (unmE s z)]) ∧ (unmE s z = 0 → OwnK w' w.heap.size v (unmL s z)) ∧ (unmE s z ≠ 0 → v = .slice none 0 0) ∧ Ext w w'
theorem retUm_bad {w w' : World} {s : Sty} {z x : Int} (h : unmE s z = x) (hx : x ≠ 0) (he : Ext w w') : RetUm w s z (.returned (.tuple #[.slice none 0 0, .int .i64 x])) w' :=
  ⟨_, by rw [h], fun h0 => absurd (h.symm.trans h0) hx, fun _ => rfl, he⟩
theorem sd_range {p : Pc} {m : Int} (h : PlOk p m) : ∀ i, i < p.ns.length → 0 ≤ gI (plL p m) i ∧ gI (plL p m) i ≤ 1000000000000 := fun i hi => by
  rw [plL_get hi]
  have hb := plV_bd (h.i i hi)
  have := lengthN_bd (gE (gradedE p.es p.cs m) (gS p.ns i).1.toNat).2
  unfold grdN at hb
  omega
theorem issK_len (kind : Int) (k : Nat) (l : List Nat) : (issK kind k l).length = l.length := by simp [issK]
theorem blk4 {t : TypeId} {w : World} {g : Nat} {v0 v1 v2 v3 : Value} (h : Blk t w g [v0, v1, v2, v3]) : w.cell? ⟨g, 0, none⟩ = some v0 ∧ w.cell? ⟨g, 1, none⟩ = some v1 ∧ w.cell? ⟨g, 2, none⟩ = some v2 ∧ w.cell? ⟨g, 3, none⟩ = some v3 := ⟨h.cell 0, h.cell 1, h.cell 2, h.cell 3⟩
theorem blk_grown {t t2 : TypeId} {w w' : World} {g b2 s2 n2 : Nat} {cs x2 : List Value} {v2 : Value} (h : Blk t w g cs) (h2 : w.ownsRow b2 t2 s2 v2 n2 x2) (hne : t2 ≠ t) (hg : w.grownBy w' v2.ownBlock) : Blk t w' g cs := (hg.block _ h.lt (Ne.symm (own_blk_ne h2 h hne))).trans h
theorem own_grown {w w' : World} {b1 b2 : Nat} {e1 e2 : TypeId} {s1 s2 n1 n2 : Nat} {v1 v2 : Value} {x1 x2 : List Value} (h : w.ownsRow b1 e1 s1 v1 n1 x1) (h2 : w.ownsRow b2 e2 s2 v2 n2 x2) (hne : e1 ≠ e2) (hg : w.grownBy w' v2.ownBlock) : w'.ownsRow b1 e1 s1 v1 n1 x1 := World.ownsRow.kept h hg (own_ne h h2 hne)
/- both sides, the seam and the sides' places in a world -/
structure Um2 (W : World) (gA gB gX : Nat) (cA cB cX : List Value) (vA vB : Value) (lA lB : List Int) : Prop where
  a : Blk 74 W gA cA
  b : Blk 74 W gB cB
  x : Blk 53 W gX cX
  p : OwnI W 0 vA lA
  q : OwnI W 0 vB lB
theorem Um2.ext {W W' : World} {gA gB gX : Nat} {cA cB cX : List Value} {vA vB : Value} {lA lB : List Int} (h : Um2 W gA gB gX cA cB cX vA vB lA lB) (he : Ext W W') : Um2 W' gA gB gX cA cB cX vA vB lA lB :=
  ⟨h.a.ext he, h.b.ext he, h.x.ext he, own_ext h.p he, own_ext h.q he⟩
theorem Um2.grown {W W' : World} {gA gB gX : Nat} {cA cB cX : List Value} {vA vB : Value} {lA lB : List Int} {b2 n2 : Nat} {v2 : Value} {x2 : List Value} (h : Um2 W gA gB gX cA cB cX vA vB lA lB) (h2 : W.ownsRow b2 59 3 v2 n2 x2) (hg : W.grownBy W' v2.ownBlock) : Um2 W' gA gB gX cA cB cX vA vB lA lB :=
  ⟨blk_grown h.a h2 (by decide) hg, blk_grown h.b h2 (by decide) hg, blk_grown h.x h2 (by decide) hg, own_grown h.p h2 (by decide) hg, own_grown h.q h2 (by decide) hg⟩
theorem sd_at {W : World} {a : SdA} {p : Pc} {m E L : Int} (hp : PlOk p m) (hn : SpotsAt W a.AN p.ns) (hl : p.ns.length = a.nN) (ho : OwnI W 0 (.slice a.AP a.nN a.cP) (plL p m)) : SdAt W a ⟨p.ns, plL p m, E, L⟩ :=
  ⟨hn, hl, (OwnI.plain ho).2.1, by rw [plL_len]; exact hl, by rw [← hl]; exact hp.n, sd_range hp⟩
/- Placed, its list as a slice -/
theorem placedS_any (a : PcA) (p : Pc) (m : Int) (w : World) (hp : PcAt w a p) :
    Calls Tryz.prog 7 #[a.val, .int .i64 m] w fun e w' => ∃ A1 n1 c1, e = .returned (.tuple #[.slice A1 n1 c1, .int .i64 (plE p m)]) ∧ (plE p m = 0 → OwnI w' w.heap.size (.slice A1 n1 c1) (plL p m) ∧ n1 = p.ns.length) ∧ Ext w w' :=
  (placedX_any a p m w hp).mono fun e w' ⟨v, h1, h2, h3, h4⟩ => by
    by_cases hz : plE p m = 0
    · obtain ⟨A, c, hv, _⟩ := OwnI.slice' (n := p.ns.length) (h2 hz) (plL_len p m)
      exact ⟨A, _, c, by rw [h1, hv], fun _ => ⟨by rw [← hv]; exact h2 hz, rfl⟩, h4⟩
    · exact ⟨none, 0, 0, by rw [h1, h3 hz], fun h => absurd h hz, h4⟩
/- when Lengths answers, the seam's pieces and edges are there -/
theorem lens_cond {s : Sty} {z : Int} {k : Nat} (h : (lensV s z k).2.2 = 0) : edgeB s (gSm s.ss k).pa (gSm s.ss k).ea = true ∧ edgeB s (gSm s.ss k).pb (gSm s.ss k).eb = true := by
  have h' : lensE s z k = 0 := by
    unfold lensV at h
    split at h
    · exact h
    · rename_i h1; exact Classical.not_not.1 h1
  unfold lensE at h'
  split at h'
  · cases h'
  split at h'
  · cases h'
  · rename_i h1 h2
    have := Classical.not_not.1 h2
    rw [Int.toNat_natCast] at this
    exact this
set_option maxRecDepth 100000 in
set_option maxHeartbeats 6400000 in
theorem unmatched_any (a : StyA) (s : Sty) (z : Int) (w : World) (hs : StyAt w a s) (hn : a.nK ≤ 1000) :
    Calls Tryz.prog 14 #[a.val, .int .i64 z] w (RetUm w s z) := by
  have HS := Lib.hid hs; clear hs
  have HD := Lib.hid (fun k W (h : Ext w W) => lengths_any a s z k W (HS.out.ext h))
  obtain ⟨nm, AS, nS, cS, AM, nM, cM, AP, nP, cP, AU, nU, cU, AK, nK, cK, AO, nO, cO⟩ := a
  have HLK : Hid (s.ss.length = nK) := HS.out.lK
  have HLM : Hid (s.ms.length = nM) := HS.out.lM
  have HLP : Hid (s.ps.length = nP) := HS.out.lP
  have HKS : Hid (SeamsAt w AK s.ss) := HS.out.K
  have HMS : Hid (IntsAt w AM s.ms) := HS.out.M
  have HPS : Hid (PiecesAt w AP s.ps) := HS.out.P
  clear HS
  simp only at hn
  simp only [StyA.val] at HD ⊢
  obtain ⟨i0, hi0, hz0, hz1, hz2⟩ := info_parts issue_info
  go_enter Tryz.func14, Tryz.ntmps14
  go_upto_region 1 with fail
  refine wp_at fun w1 hW1 => ?_
  have HB1 : Hid (Blk 44 w1 w.heap.size [.string nm, .slice AS nS cS, .slice AM nM cM, .slice AP nP cP, .slice AU nU cU, .slice AK nK cK, .slice AO nO cO]) := by show Blk _ _ _ _; rw [hW1]; exact Blk.new' rfl
  have HX1 : Hid (Ext w w1) := by show Ext _ _; rw [hW1]; exact (Ext.refl w).alloc _
  clear hW1
  obtain ⟨c0, c1, c2, c3, c4, c5, c6⟩ := blk7 HB1.out
  by_cases g0 : z < 0
  · have HR : Hid (unmE s z = 3) := by show _ = _; unfold unmE; rw [if_pos (show sizeB s z = false from decide_eq_false (by omega))]
    go_wp2_with fail
    go_ret2
    exact retUm_bad HR.out (by decide) HX1.out
  by_cases g1 : (nM : Int) ≤ z
  · have HR : Hid (unmE s z = 3) := by show _ = _; unfold unmE; rw [if_pos (show sizeB s z = false from decide_eq_false (by rw [HLM.out]; omega))]
    go_wp2_with fail
    go_ret2
    exact retUm_bad HR.out (by decide) HX1.out
  obtain ⟨Z, rfl⟩ := Int.eq_ofNat_of_zero_le (show 0 ≤ z by omega)
  have hZ : Z < nM := by omega
  have HUE : Hid (unmE s Z = firstE (seamE s Z) nK) := by show _ = _; unfold unmE; rw [if_neg (by rw [show sizeB s Z = true from decide_eq_true (by rw [HLM.out]; omega)]; decide), HLK.out]
  go_wp2_with fail
  clear c0 c1 c2 c3 c4 c5 c6 g0 g1
  go_loopw [6, 30] (fun v i wr => ∃ k : Nat, k ≤ nK ∧ i = .int .i64 k ∧ firstE (seamE s Z) k = 0 ∧ OwnK wr w1.heap.size v (unmTo s Z k) ∧ (unmTo s Z k).length ≤ 32 * k ∧ Ext w1 wr) (fun _ i _ => nK - (intOf i).toNat)
  case atStart => exact ⟨0, Nat.zero_le _, rfl, rfl, World.ownsRow_nil _ _ _ _, Nat.le_refl _, Ext.refl _⟩
  case round =>
    obtain ⟨k, hk, rfl, ht, ho, hlen, hx⟩ := hrel
    have HT := Lib.hid ht; have HO := Lib.hid ho; have HX := Lib.hid hx; have HLEN := Lib.hid hlen; clear ht ho hx hlen
    have HXw := Lib.hid (HX1.out.trans HX.out)
    by_cases hlt : k < nK
    · have hkl : k < s.ss.length := by rw [HLK.out]; exact hlt
      obtain ⟨bk, ok, hAK, hsm⟩ := (HKS.out.ext HXw.out) k hkl
      subst hAK
      obtain ⟨sm, hsmd⟩ : ∃ sm, sm = gSm s.ss k := ⟨_, rfl⟩
      rw [← hsmd] at hsm
      have HSM := Lib.hid hsmd.symm; clear hsmd
      obtain ⟨pa, ea, pb, eb, rv, es⟩ := sm
      obtain ⟨k0, k1, k2, k3, k4, k5⟩ := hsm
      simp only at k0 k1 k2 k3 k4 k5
      obtain ⟨c0, c1, c2, c3, c4, c5, c6⟩ := blk7 (HB1.out.ext HX.out)
      have hpl : w.heap.size < wr.heap.size := (HB1.out.ext HX.out).lt
      have HXL : Hid (Ext wr (wr.alloc (.cells #[.int .i64 pa, .int .i64 ea, .int .i64 pb, .int .i64 eb, .bool rv, .int .i64 es] 53))) := (Ext.refl _).alloc _
      go_wp2_with fail
      refine (HD.out (k : Int) _ (HXw.out.trans HXL.out)).mono ?_
      rintro e w2 ⟨rfl, he2⟩
      have HSB : Hid (Blk 53 w2 wr.heap.size [.int .i64 pa, .int .i64 ea, .int .i64 pb, .int .i64 eb, .bool rv, .int .i64 es]) := (Blk.new' rfl).ext he2
      have HX2 := Lib.hid ((HX.out.trans HXL.out).trans he2)
      have HXr2 := Lib.hid (HXL.out.trans he2)
      clear he2 HXL c0 c1 c2 c3 c4 c5 c6 k0 k1 k2 k3 k4 k5 hpl
      obtain ⟨xb, hxb⟩ : ∃ xb, xb = wr.heap.size := ⟨_, rfl⟩
      rw [← hxb] at HSB ⊢
      clear hxb
      obtain ⟨bd1, bd2, bd3, bd4⟩ := lensV_bd s Z k
      have HCOND := Lib.hid (fun h => lens_cond (s := s) (z := Z) (k := k) h)
      have HSE : Hid (seamE s Z k = if (lensV s Z k).2.2 ≠ 0 then (lensV s Z k).2.2 else if plE (gPc s.ps pa.toNat) (gI s.ms Z) ≠ 0 then plE (gPc s.ps pa.toNat) (gI s.ms Z) else plE (gPc s.ps pb.toNat) (gI s.ms Z)) := by show _ = _; unfold seamE; rw [HSM.out, Int.toNat_natCast]
      have HSA : Hid (sdA s Z k = ⟨(gPc s.ps pa.toNat).ns, plL (gPc s.ps pa.toNat) (gI s.ms Z), ea, (lensV s Z k).1⟩) := by show _ = _; unfold sdA; rw [HSM.out, Int.toNat_natCast]
      have HSBd : Hid (sdB s Z k = ⟨(gPc s.ps pb.toNat).ns, plL (gPc s.ps pb.toNat) (gI s.ms Z), eb, (lensV s Z k).2.1⟩) := by show _ = _; unfold sdB; rw [HSM.out, Int.toNat_natCast]
      obtain ⟨V, hV⟩ : ∃ V, V = lensV s Z k := ⟨_, rfl⟩
      rw [← hV] at bd1 bd2 bd3 bd4 HSE HSA HSBd HCOND ⊢
      clear hV
      obtain ⟨LA, LB, E⟩ := V
      simp only at bd1 bd2 bd3 bd4 HSE HSA HSBd HCOND
      simp only [LenV]
      by_cases hz : E = 0
      rotate_left
      · have HR : Hid (unmE s Z = E) := by
          show _ = _
          have e : seamE s Z k = E := by rw [HSE.out, if_pos hz]
          rw [HUE.out, firstE_at hlt HT.out (by rw [e]; exact hz), e]
        have hzb : (E != 0) = true := by simp [hz]
        have HZ := Lib.hid hz; clear hz
        go_wp2_with fail
        go_ret2
        exact retUm_bad HR.out HZ.out (HX1.out.trans HX2.out)
      subst hz
      obtain ⟨hca, hcb⟩ := HCOND.out rfl
      rw [HSM.out] at hca hcb
      simp only at hca hcb
      obtain ⟨qa0, qa1, qa2, qa3⟩ := edgeB_iff hca
      obtain ⟨qb0, qb1, qb2, qb3⟩ := edgeB_iff hcb
      obtain ⟨PA, rfl⟩ := Int.eq_ofNat_of_zero_le qa0
      obtain ⟨PB, rfl⟩ := Int.eq_ofNat_of_zero_le qb0
      rw [HLP.out] at qa1 qb1
      have hPA : PA < nP := by omega
      have hPB : PB < nP := by omega
      clear hca hcb HCOND qa0 qa1 qa2 qa3 qb0 qb1 qb2 qb3
      rw [Int.toNat_natCast] at HSA HSBd
      rw [Int.toNat_natCast, Int.toNat_natCast] at HSE
      obtain ⟨M, hM⟩ : ∃ M, gI s.ms Z = M := ⟨_, rfl⟩
      rw [hM] at HSE HSA HSBd
      have HM := Lib.hid hM; clear hM
      have HXi := Lib.hid (HX1.out.trans HX2.out)
      have HBi := Lib.hid (HB1.out.ext HX2.out)
      have HSi := Lib.hid HSB.out
      have hxl : xb < w2.heap.size := HSB.out.lt
      obtain ⟨bpA, opA, qA, hAP, hp0, hcA⟩ := HPS.out PA (by rw [HLP.out]; exact hPA)
      subst hAP
      have hpA := hp0.ext HXi.out
      have HPCA := Lib.hid (fun W (h : Ext w2 W) => placedS_any qA (gPc s.ps PA) M W (hpA.ext h))
      have HNAA := Lib.hid hp0.n; have HNLA := Lib.hid hp0.ln
      obtain ⟨nmA, AEA, nEA, cEA, grA, ANA, nNA, cNA, ACA, nCA, cCA, AWA, nWA, cWA, mtA⟩ := qA
      obtain ⟨a0, a1, a2, a3, a4, a5, a6⟩ := hcA
      simp only [PcA.val] at HPCA HNAA HNLA a0 a1 a2 a3 a4 a5 a6
      clear hpA hp0
      replace a0 := HXi.out.cell a0
      replace a1 := HXi.out.cell a1
      replace a2 := HXi.out.cell a2
      replace a3 := HXi.out.cell a3
      replace a4 := HXi.out.cell a4
      replace a5 := HXi.out.cell a5
      replace a6 := HXi.out.cell a6
      obtain ⟨c0, c1, c2, c3, c4, c5, c6⟩ := blk7 HBi.out
      obtain ⟨x0, x1, x2, x3, x4, x5⟩ := blk6 HSi.out
      obtain ⟨bm, om, hAM, m0⟩ := (HMS.out.ext HXi.out).g (k := Z) (by rw [HLM.out]; exact hZ)
      subst hAM
      rw [HM.out] at m0
      have hPn : (PA : Int) < nP := by omega
      have hPn0 : (0 : Int) ≤ PA := by omega
      have hZn : (Z : Int) < nM := by omega
      have hZn0 : (0 : Int) ≤ Z := by omega
      go_upto_region 10 with fail
      go_cut [12] from 46 to 56 (fun pt wc => ∃ sb, pt = .pointer (some ⟨sb, 0, none⟩) ∧ Blk 74 wc sb [.slice ANA nNA cNA, .slice none 0 0, .int .i64 ea, .int .i64 LA] ∧ Ext w2 wc ∧ w2.heap.size ≤ sb)
      case first =>
        have keep : ∀ W2 : World, Ext w2 W2 → (Ext w2 W2 ∧ W2.cell? ⟨w.heap.size, 3, none⟩ = some (.slice (some ⟨bpA, opA, none⟩) nP cP) ∧ W2.cell? ⟨xb, 0, none⟩ = some (.int .i64 (PA : Int)) ∧ W2.cell? ⟨xb, 1, none⟩ = some (.int .i64 ea) ∧ W2.cell? ⟨bpA, opA + PA * 7 + 3, none⟩ = some (.slice ANA nNA cNA)) := fun W2 hx => ⟨hx, hx.cell c3, hx.cell x0, hx.cell x1, hx.cell a3⟩
        have KEEP := Lib.hid keep; clear keep c0 c1 c2 c3 c4 c5 c6 x0 x1 x2 x3 x4 x5 a0 a1 a2 a3 a4 a5 a6 m0
        go_region_held3 (fun W => Ext w2 W ∧ W.cell? ⟨w.heap.size, 3, none⟩ = some (.slice (some ⟨bpA, opA, none⟩) nP cP) ∧ W.cell? ⟨xb, 0, none⟩ = some (.int .i64 (PA : Int)) ∧ W.cell? ⟨xb, 1, none⟩ = some (.int .i64 ea) ∧ W.cell? ⟨bpA, opA + PA * 7 + 3, none⟩ = some (.slice ANA nNA cNA))
          (first | (with_reducible assumption) | (with_reducible exact KEEP.out _ (Ext.drew (Ext.refl _))) | (with_reducible exact KEEP.out _ (Ext.drew (Ext.alloc (Ext.refl _) _))) | fail)
          (first | fail)
        all_goals
          go_wp2_with fail
          go_meet
        all_goals exact ⟨_, rfl, (Blk.new' rfl).ext ((Ext.refl _).drew), ((Ext.refl _).alloc _).drew, Nat.le_refl _⟩
      case rest =>
      obtain ⟨sbA, hsb, hBs, hxc, hslA⟩ := hcut
      subst hsb
      obtain ⟨wzA, hwzA⟩ : ∃ wzA : World, wzA = wc := ⟨_, rfl⟩
      subst hwzA
      have HBsA := Lib.hid hBs; have HXcA := Lib.hid hxc
      clear hBs hxc
      have b0 := HXcA.out.cell a0
      have b1 := HXcA.out.cell a1
      have b2 := HXcA.out.cell a2
      have b3 := HXcA.out.cell a3
      have b4 := HXcA.out.cell a4
      have b5 := HXcA.out.cell a5
      have b6 := HXcA.out.cell a6
      have d2 := HXcA.out.cell c2
      have d3 := HXcA.out.cell c3
      have y0 := HXcA.out.cell x0
      have n0 := HXcA.out.cell m0
      have l0 := cell_lt a0
      have l1 := cell_lt c2
      have l2 := cell_lt x0
      have l3 := cell_lt m0
      clear c0 c1 c2 c3 c4 c5 c6 x0 x1 x2 x3 x4 x5 a0 a1 a2 a3 a4 a5 a6 m0
      obtain ⟨PEA, hPEA⟩ : ∃ x, x = plE (gPc s.ps PA) M := ⟨_, rfl⟩
      have HPCz : Hid (∀ W, Ext wzA W → Calls Tryz.prog 7 #[.agg #[.string nmA, .slice AEA nEA cEA, .int .i64 grA, .slice ANA nNA cNA, .slice ACA nCA cCA, .slice AWA nWA cWA, .bool mtA], .int .i64 M] W fun e w' => ∃ A1 n1 c1, e = .returned (.tuple #[.slice A1 n1 c1, .int .i64 PEA]) ∧ (PEA = 0 → OwnI w' W.heap.size (.slice A1 n1 c1) (plL (gPc s.ps PA) M) ∧ n1 = (gPc s.ps PA).ns.length) ∧ Ext W w') := fun W h => by rw [hPEA]; exact HPCA.out W (HXcA.out.trans h)
      have HPEA := Lib.hid hPEA
      clear HPCA hPEA
      go_upto_region 11 with fail
      go_cut [11] from 57 to 72 (fun ev wc => ∃ A1 n1 c1, ev = .int .i64 PEA ∧ Blk 74 wc sbA [.slice ANA nNA cNA, .slice A1 n1 c1, .int .i64 ea, .int .i64 LA] ∧ (PEA = 0 → OwnI wc wzA.heap.size (.slice A1 n1 c1) (plL (gPc s.ps PA) M) ∧ n1 = (gPc s.ps PA).ns.length) ∧ Kept (fun j => j = sbA) wzA wc)
      case first =>
        have keep : ∀ W2 : World, Ext wzA W2 → (W2.cell? ⟨w.heap.size, 2, none⟩ = some (.slice (some ⟨bm, om, none⟩) nM cM) ∧ W2.cell? ⟨w.heap.size, 3, none⟩ = some (.slice (some ⟨bpA, opA, none⟩) nP cP) ∧ W2.cell? ⟨xb, 0, none⟩ = some (.int .i64 (PA : Int)) ∧ W2.cell? ⟨bm, om + Z, none⟩ = some (.int .i64 M) ∧ W2.cell? ⟨bpA, opA + PA * 7, none⟩ = some (.string nmA) ∧ W2.cell? ⟨bpA, opA + PA * 7 + 1, none⟩ = some (.slice AEA nEA cEA) ∧ W2.cell? ⟨bpA, opA + PA * 7 + 2, none⟩ = some (.int .i64 grA) ∧ W2.cell? ⟨bpA, opA + PA * 7 + 3, none⟩ = some (.slice ANA nNA cNA) ∧ W2.cell? ⟨bpA, opA + PA * 7 + 4, none⟩ = some (.slice ACA nCA cCA) ∧ W2.cell? ⟨bpA, opA + PA * 7 + 5, none⟩ = some (.slice AWA nWA cWA) ∧ W2.cell? ⟨bpA, opA + PA * 7 + 6, none⟩ = some (.bool mtA)) := fun W2 hx => ⟨hx.cell d2, hx.cell d3, hx.cell y0, hx.cell n0, hx.cell b0, hx.cell b1, hx.cell b2, hx.cell b3, hx.cell b4, hx.cell b5, hx.cell b6⟩
        have KEEP := Lib.hid keep
        have KSET : Hid (∀ (W2 : World) (u : Value), Ext wzA W2 → ((W2.setCell ⟨sbA, 1, none⟩ u).cell? ⟨w.heap.size, 2, none⟩ = some (.slice (some ⟨bm, om, none⟩) nM cM) ∧ (W2.setCell ⟨sbA, 1, none⟩ u).cell? ⟨w.heap.size, 3, none⟩ = some (.slice (some ⟨bpA, opA, none⟩) nP cP) ∧ (W2.setCell ⟨sbA, 1, none⟩ u).cell? ⟨xb, 0, none⟩ = some (.int .i64 (PA : Int)) ∧ (W2.setCell ⟨sbA, 1, none⟩ u).cell? ⟨bm, om + Z, none⟩ = some (.int .i64 M) ∧ (W2.setCell ⟨sbA, 1, none⟩ u).cell? ⟨bpA, opA + PA * 7, none⟩ = some (.string nmA) ∧ (W2.setCell ⟨sbA, 1, none⟩ u).cell? ⟨bpA, opA + PA * 7 + 1, none⟩ = some (.slice AEA nEA cEA) ∧ (W2.setCell ⟨sbA, 1, none⟩ u).cell? ⟨bpA, opA + PA * 7 + 2, none⟩ = some (.int .i64 grA) ∧ (W2.setCell ⟨sbA, 1, none⟩ u).cell? ⟨bpA, opA + PA * 7 + 3, none⟩ = some (.slice ANA nNA cNA) ∧ (W2.setCell ⟨sbA, 1, none⟩ u).cell? ⟨bpA, opA + PA * 7 + 4, none⟩ = some (.slice ACA nCA cCA) ∧ (W2.setCell ⟨sbA, 1, none⟩ u).cell? ⟨bpA, opA + PA * 7 + 5, none⟩ = some (.slice AWA nWA cWA) ∧ (W2.setCell ⟨sbA, 1, none⟩ u).cell? ⟨bpA, opA + PA * 7 + 6, none⟩ = some (.bool mtA))) := fun W2 u hx => by
          obtain ⟨k1, k2, k3, k4, k5, k6, k7, k8, k9, k10, k11⟩ := keep W2 hx
          have far : ∀ (b o : Nat) (v : Value), b < w2.heap.size → W2.cell? ⟨b, o, none⟩ = some v → (W2.setCell ⟨sbA, 1, none⟩ u).cell? ⟨b, o, none⟩ = some v := fun b o v hb h => (World.cell?_setCell_far W2 ⟨sbA, 1, none⟩ ⟨b, o, none⟩ u (show sbA ≠ b by omega)).trans h
          exact ⟨far _ _ _ l1 k1, far _ _ _ l1 k2, far _ _ _ l2 k3, far _ _ _ l3 k4, far _ _ _ l0 k5, far _ _ _ l0 k6, far _ _ _ l0 k7, far _ _ _ l0 k8, far _ _ _ l0 k9, far _ _ _ l0 k10, far _ _ _ l0 k11⟩
        clear keep b0 b1 b2 b3 b4 b5 b6 d2 d3 y0 n0
        go_region_held3 (fun W => W.cell? ⟨w.heap.size, 2, none⟩ = some (.slice (some ⟨bm, om, none⟩) nM cM) ∧ W.cell? ⟨w.heap.size, 3, none⟩ = some (.slice (some ⟨bpA, opA, none⟩) nP cP) ∧ W.cell? ⟨xb, 0, none⟩ = some (.int .i64 (PA : Int)) ∧ W.cell? ⟨bm, om + Z, none⟩ = some (.int .i64 M) ∧ W.cell? ⟨bpA, opA + PA * 7, none⟩ = some (.string nmA) ∧ W.cell? ⟨bpA, opA + PA * 7 + 1, none⟩ = some (.slice AEA nEA cEA) ∧ W.cell? ⟨bpA, opA + PA * 7 + 2, none⟩ = some (.int .i64 grA) ∧ W.cell? ⟨bpA, opA + PA * 7 + 3, none⟩ = some (.slice ANA nNA cNA) ∧ W.cell? ⟨bpA, opA + PA * 7 + 4, none⟩ = some (.slice ACA nCA cCA) ∧ W.cell? ⟨bpA, opA + PA * 7 + 5, none⟩ = some (.slice AWA nWA cWA) ∧ W.cell? ⟨bpA, opA + PA * 7 + 6, none⟩ = some (.bool mtA))
          (first | (with_reducible exact KSET.out _ _ hx2) | (with_reducible assumption) | (with_reducible exact KEEP.out _ (Ext.drew (Ext.refl _))) | (with_reducible exact KEEP.out _ hx2) | fail)
          (first
            | (go_at_call 7; (with_reducible refine (HPCz.out wzA.drew (Ext.drew (Ext.refl _))).mono ?_); rintro e w2' ⟨A1, n1, c1, rfl, hOI, he2⟩; have hx2 : Ext wzA w2' := (Ext.drew (Ext.refl _)).trans he2; have hB1 := HBsA.out.ext hx2; have s1 : w2'.cell? ⟨sbA, 1, none⟩ = some (.slice none 0 0) := hB1.cell 1; have e1 := hB1.frozen 1; have HB1' := Lib.hid hB1; have HOI := Lib.hid hOI; clear hB1 hOI)
            | fail)
        all_goals
          go_wp2_with fail
          go_meet
        all_goals exact ⟨A1, n1, c1, rfl, HB1'.out.set 1 _, fun h => ⟨own_set (HOI.out h).1 (own_blk_ne (HOI.out h).1 HB1'.out (by decide)) _, (HOI.out h).2⟩, (hx2.kept (fun j => j = sbA)).set (.inr rfl) _⟩
      case rest =>
      obtain ⟨A1A, n1A, c1A, hev, hBs, hOI, hKc⟩ := hcut
      subst hev
      obtain ⟨wkA, hwkA⟩ : ∃ wkA : World, wkA = wc := ⟨_, rfl⟩
      subst hwkA
      clear b0 b1 b2 b3 b4 b5 b6 d2 d3 y0 n0 l0 l1 l2 l3
      have HBkA := Lib.hid hBs; have HOIA := Lib.hid hOI; have HKcA := Lib.hid hKc
      have HXik := Lib.hid (show Ext w2 wkA from hKc.ext HXcA.out (fun j hj => by omega))
      clear hBs hOI hKc HPCz hPn hPn0 hZn hZn0
      by_cases hzA : PEA = 0
      rotate_left
      · have HR : Hid (unmE s Z = PEA) := by
          show _ = _
          have e : seamE s Z k = PEA := by rw [HSE.out, if_neg (fun h => h rfl), ← HPEA.out, if_pos hzA]
          rw [HUE.out, firstE_at hlt HT.out (by rw [e]; exact hzA), e]
        have hzb : (PEA != 0) = true := by simp [hzA]
        have HZ := Lib.hid hzA; clear hzA
        go_wp2_with fail
        go_ret2
        exact retUm_bad HR.out HZ.out (HXi.out.trans HXik.out)
      subst hzA
      have HPA0 := Lib.hid HPEA.out.symm; clear HPEA
      obtain ⟨hOA, hnA⟩ := HOIA.out rfl
      obtain rfl : nNA = n1A := (hnA.trans HNLA.out).symm
      have HOOA := Lib.hid (own_base_le hOA (Nat.zero_le _)); clear hOA hnA HOIA
      have HXiB := Lib.hid (HXi.out.trans HXik.out)
      have HBiB := Lib.hid (HBi.out.ext HXik.out)
      have HSiB := Lib.hid (HSi.out.ext HXik.out)
      have hxlB : xb < wkA.heap.size := HSiB.out.lt
      obtain ⟨bpX, opX, qB, hAP, hp0, hcB⟩ := HPS.out PB (by rw [HLP.out]; exact hPB)
      obtain ⟨rfl, rfl⟩ : bpA = bpX ∧ opA = opX := by injection hAP with hAP; injection hAP with e1 e2; exact ⟨e1, e2⟩
      have hpB := hp0.ext HXiB.out
      have HPCB := Lib.hid (fun W (h : Ext wkA W) => placedS_any qB (gPc s.ps PB) M W (hpB.ext h))
      have HNAB := Lib.hid hp0.n; have HNLB := Lib.hid hp0.ln
      obtain ⟨nmB, AEB, nEB, cEB, grB, ANB, nNB, cNB, ACB, nCB, cCB, AWB, nWB, cWB, mtB⟩ := qB
      obtain ⟨a0, a1, a2, a3, a4, a5, a6⟩ := hcB
      simp only [PcA.val] at HPCB HNAB HNLB a0 a1 a2 a3 a4 a5 a6
      clear hpB hp0
      replace a0 := HXiB.out.cell a0
      replace a1 := HXiB.out.cell a1
      replace a2 := HXiB.out.cell a2
      replace a3 := HXiB.out.cell a3
      replace a4 := HXiB.out.cell a4
      replace a5 := HXiB.out.cell a5
      replace a6 := HXiB.out.cell a6
      obtain ⟨c0, c1, c2, c3, c4, c5, c6⟩ := blk7 HBiB.out
      obtain ⟨x0, x1, x2, x3, x4, x5⟩ := blk6 HSiB.out
      obtain ⟨bmX, omX, hAM, m0⟩ := (HMS.out.ext HXiB.out).g (k := Z) (by rw [HLM.out]; exact hZ)
      obtain ⟨rfl, rfl⟩ : bm = bmX ∧ om = omX := by injection hAM with hAM; injection hAM with e1 e2; exact ⟨e1, e2⟩
      rw [HM.out] at m0
      have hPn : (PB : Int) < nP := by omega
      have hPn0 : (0 : Int) ≤ PB := by omega
      have hZn : (Z : Int) < nM := by omega
      have hZn0 : (0 : Int) ≤ Z := by omega
      go_upto_region 14 with fail
      go_cut [13] from 76 to 86 (fun pt wc => ∃ sb, pt = .pointer (some ⟨sb, 0, none⟩) ∧ Blk 74 wc sb [.slice ANB nNB cNB, .slice none 0 0, .int .i64 eb, .int .i64 LB] ∧ Ext wkA wc ∧ wkA.heap.size ≤ sb)
      case first =>
        have keep : ∀ W2 : World, Ext wkA W2 → (Ext wkA W2 ∧ W2.cell? ⟨w.heap.size, 3, none⟩ = some (.slice (some ⟨bpA, opA, none⟩) nP cP) ∧ W2.cell? ⟨xb, 2, none⟩ = some (.int .i64 (PB : Int)) ∧ W2.cell? ⟨xb, 3, none⟩ = some (.int .i64 eb) ∧ W2.cell? ⟨bpA, opA + PB * 7 + 3, none⟩ = some (.slice ANB nNB cNB)) := fun W2 hx => ⟨hx, hx.cell c3, hx.cell x2, hx.cell x3, hx.cell a3⟩
        have KEEP := Lib.hid keep; clear keep c0 c1 c2 c3 c4 c5 c6 x0 x1 x2 x3 x4 x5 a0 a1 a2 a3 a4 a5 a6 m0
        go_region_held3 (fun W => Ext wkA W ∧ W.cell? ⟨w.heap.size, 3, none⟩ = some (.slice (some ⟨bpA, opA, none⟩) nP cP) ∧ W.cell? ⟨xb, 2, none⟩ = some (.int .i64 (PB : Int)) ∧ W.cell? ⟨xb, 3, none⟩ = some (.int .i64 eb) ∧ W.cell? ⟨bpA, opA + PB * 7 + 3, none⟩ = some (.slice ANB nNB cNB))
          (first | (with_reducible assumption) | (with_reducible exact KEEP.out _ (Ext.drew (Ext.refl _))) | (with_reducible exact KEEP.out _ (Ext.drew (Ext.alloc (Ext.refl _) _))) | fail)
          (first | fail)
        all_goals
          go_wp2_with fail
          go_meet
        all_goals exact ⟨_, rfl, (Blk.new' rfl).ext ((Ext.refl _).drew), ((Ext.refl _).alloc _).drew, Nat.le_refl _⟩
      case rest =>
      obtain ⟨sbB, hsb, hBs, hxc, hslB⟩ := hcut
      subst hsb
      obtain ⟨wzB, hwzB⟩ : ∃ wzB : World, wzB = wc := ⟨_, rfl⟩
      subst hwzB
      have HBsB := Lib.hid hBs; have HXcB := Lib.hid hxc
      clear hBs hxc
      have b0 := HXcB.out.cell a0
      have b1 := HXcB.out.cell a1
      have b2 := HXcB.out.cell a2
      have b3 := HXcB.out.cell a3
      have b4 := HXcB.out.cell a4
      have b5 := HXcB.out.cell a5
      have b6 := HXcB.out.cell a6
      have d2 := HXcB.out.cell c2
      have d3 := HXcB.out.cell c3
      have y0 := HXcB.out.cell x2
      have n0 := HXcB.out.cell m0
      have l0 := cell_lt a0
      have l1 := cell_lt c2
      have l2 := cell_lt x0
      have l3 := cell_lt m0
      clear c0 c1 c2 c3 c4 c5 c6 x0 x1 x2 x3 x4 x5 a0 a1 a2 a3 a4 a5 a6 m0
      obtain ⟨PEB, hPEB⟩ : ∃ x, x = plE (gPc s.ps PB) M := ⟨_, rfl⟩
      have HPCz : Hid (∀ W, Ext wzB W → Calls Tryz.prog 7 #[.agg #[.string nmB, .slice AEB nEB cEB, .int .i64 grB, .slice ANB nNB cNB, .slice ACB nCB cCB, .slice AWB nWB cWB, .bool mtB], .int .i64 M] W fun e w' => ∃ A1 n1 c1, e = .returned (.tuple #[.slice A1 n1 c1, .int .i64 PEB]) ∧ (PEB = 0 → OwnI w' W.heap.size (.slice A1 n1 c1) (plL (gPc s.ps PB) M) ∧ n1 = (gPc s.ps PB).ns.length) ∧ Ext W w') := fun W h => by rw [hPEB]; exact HPCB.out W (HXcB.out.trans h)
      have HPEB := Lib.hid hPEB
      clear HPCB hPEB
      go_upto_region 15 with fail
      go_cut [11] from 87 to 102 (fun ev wc => ∃ A1 n1 c1, ev = .int .i64 PEB ∧ Blk 74 wc sbB [.slice ANB nNB cNB, .slice A1 n1 c1, .int .i64 eb, .int .i64 LB] ∧ (PEB = 0 → OwnI wc wzB.heap.size (.slice A1 n1 c1) (plL (gPc s.ps PB) M) ∧ n1 = (gPc s.ps PB).ns.length) ∧ Kept (fun j => j = sbB) wzB wc)
      case first =>
        have keep : ∀ W2 : World, Ext wzB W2 → (W2.cell? ⟨w.heap.size, 2, none⟩ = some (.slice (some ⟨bm, om, none⟩) nM cM) ∧ W2.cell? ⟨w.heap.size, 3, none⟩ = some (.slice (some ⟨bpA, opA, none⟩) nP cP) ∧ W2.cell? ⟨xb, 2, none⟩ = some (.int .i64 (PB : Int)) ∧ W2.cell? ⟨bm, om + Z, none⟩ = some (.int .i64 M) ∧ W2.cell? ⟨bpA, opA + PB * 7, none⟩ = some (.string nmB) ∧ W2.cell? ⟨bpA, opA + PB * 7 + 1, none⟩ = some (.slice AEB nEB cEB) ∧ W2.cell? ⟨bpA, opA + PB * 7 + 2, none⟩ = some (.int .i64 grB) ∧ W2.cell? ⟨bpA, opA + PB * 7 + 3, none⟩ = some (.slice ANB nNB cNB) ∧ W2.cell? ⟨bpA, opA + PB * 7 + 4, none⟩ = some (.slice ACB nCB cCB) ∧ W2.cell? ⟨bpA, opA + PB * 7 + 5, none⟩ = some (.slice AWB nWB cWB) ∧ W2.cell? ⟨bpA, opA + PB * 7 + 6, none⟩ = some (.bool mtB)) := fun W2 hx => ⟨hx.cell d2, hx.cell d3, hx.cell y0, hx.cell n0, hx.cell b0, hx.cell b1, hx.cell b2, hx.cell b3, hx.cell b4, hx.cell b5, hx.cell b6⟩
        have KEEP := Lib.hid keep
        have KSET : Hid (∀ (W2 : World) (u : Value), Ext wzB W2 → ((W2.setCell ⟨sbB, 1, none⟩ u).cell? ⟨w.heap.size, 2, none⟩ = some (.slice (some ⟨bm, om, none⟩) nM cM) ∧ (W2.setCell ⟨sbB, 1, none⟩ u).cell? ⟨w.heap.size, 3, none⟩ = some (.slice (some ⟨bpA, opA, none⟩) nP cP) ∧ (W2.setCell ⟨sbB, 1, none⟩ u).cell? ⟨xb, 2, none⟩ = some (.int .i64 (PB : Int)) ∧ (W2.setCell ⟨sbB, 1, none⟩ u).cell? ⟨bm, om + Z, none⟩ = some (.int .i64 M) ∧ (W2.setCell ⟨sbB, 1, none⟩ u).cell? ⟨bpA, opA + PB * 7, none⟩ = some (.string nmB) ∧ (W2.setCell ⟨sbB, 1, none⟩ u).cell? ⟨bpA, opA + PB * 7 + 1, none⟩ = some (.slice AEB nEB cEB) ∧ (W2.setCell ⟨sbB, 1, none⟩ u).cell? ⟨bpA, opA + PB * 7 + 2, none⟩ = some (.int .i64 grB) ∧ (W2.setCell ⟨sbB, 1, none⟩ u).cell? ⟨bpA, opA + PB * 7 + 3, none⟩ = some (.slice ANB nNB cNB) ∧ (W2.setCell ⟨sbB, 1, none⟩ u).cell? ⟨bpA, opA + PB * 7 + 4, none⟩ = some (.slice ACB nCB cCB) ∧ (W2.setCell ⟨sbB, 1, none⟩ u).cell? ⟨bpA, opA + PB * 7 + 5, none⟩ = some (.slice AWB nWB cWB) ∧ (W2.setCell ⟨sbB, 1, none⟩ u).cell? ⟨bpA, opA + PB * 7 + 6, none⟩ = some (.bool mtB))) := fun W2 u hx => by
          obtain ⟨k1, k2, k3, k4, k5, k6, k7, k8, k9, k10, k11⟩ := keep W2 hx
          have far : ∀ (b o : Nat) (v : Value), b < wkA.heap.size → W2.cell? ⟨b, o, none⟩ = some v → (W2.setCell ⟨sbB, 1, none⟩ u).cell? ⟨b, o, none⟩ = some v := fun b o v hb h => (World.cell?_setCell_far W2 ⟨sbB, 1, none⟩ ⟨b, o, none⟩ u (show sbB ≠ b by omega)).trans h
          exact ⟨far _ _ _ l1 k1, far _ _ _ l1 k2, far _ _ _ l2 k3, far _ _ _ l3 k4, far _ _ _ l0 k5, far _ _ _ l0 k6, far _ _ _ l0 k7, far _ _ _ l0 k8, far _ _ _ l0 k9, far _ _ _ l0 k10, far _ _ _ l0 k11⟩
        clear keep b0 b1 b2 b3 b4 b5 b6 d2 d3 y0 n0
        go_region_held3 (fun W => W.cell? ⟨w.heap.size, 2, none⟩ = some (.slice (some ⟨bm, om, none⟩) nM cM) ∧ W.cell? ⟨w.heap.size, 3, none⟩ = some (.slice (some ⟨bpA, opA, none⟩) nP cP) ∧ W.cell? ⟨xb, 2, none⟩ = some (.int .i64 (PB : Int)) ∧ W.cell? ⟨bm, om + Z, none⟩ = some (.int .i64 M) ∧ W.cell? ⟨bpA, opA + PB * 7, none⟩ = some (.string nmB) ∧ W.cell? ⟨bpA, opA + PB * 7 + 1, none⟩ = some (.slice AEB nEB cEB) ∧ W.cell? ⟨bpA, opA + PB * 7 + 2, none⟩ = some (.int .i64 grB) ∧ W.cell? ⟨bpA, opA + PB * 7 + 3, none⟩ = some (.slice ANB nNB cNB) ∧ W.cell? ⟨bpA, opA + PB * 7 + 4, none⟩ = some (.slice ACB nCB cCB) ∧ W.cell? ⟨bpA, opA + PB * 7 + 5, none⟩ = some (.slice AWB nWB cWB) ∧ W.cell? ⟨bpA, opA + PB * 7 + 6, none⟩ = some (.bool mtB))
          (first | (with_reducible exact KSET.out _ _ hx2) | (with_reducible assumption) | (with_reducible exact KEEP.out _ (Ext.drew (Ext.refl _))) | (with_reducible exact KEEP.out _ hx2) | fail)
          (first
            | (go_at_call 7; (with_reducible refine (HPCz.out wzB.drew (Ext.drew (Ext.refl _))).mono ?_); rintro e w2' ⟨A1, n1, c1, rfl, hOI, he2⟩; have hx2 : Ext wzB w2' := (Ext.drew (Ext.refl _)).trans he2; have hB1 := HBsB.out.ext hx2; have s1 : w2'.cell? ⟨sbB, 1, none⟩ = some (.slice none 0 0) := hB1.cell 1; have e1 := hB1.frozen 1; have HB1' := Lib.hid hB1; have HOI := Lib.hid hOI; clear hB1 hOI)
            | fail)
        all_goals
          go_wp2_with fail
          go_meet
        all_goals exact ⟨A1, n1, c1, rfl, HB1'.out.set 1 _, fun h => ⟨own_set (HOI.out h).1 (own_blk_ne (HOI.out h).1 HB1'.out (by decide)) _, (HOI.out h).2⟩, (hx2.kept (fun j => j = sbB)).set (.inr rfl) _⟩
      case rest =>
      obtain ⟨A1B, n1B, c1B, hev, hBs, hOI, hKc⟩ := hcut
      subst hev
      obtain ⟨wkB, hwkB⟩ : ∃ wkB : World, wkB = wc := ⟨_, rfl⟩
      subst hwkB
      clear b0 b1 b2 b3 b4 b5 b6 d2 d3 y0 n0 l0 l1 l2 l3
      have HBkB := Lib.hid hBs; have HOIB := Lib.hid hOI; have HKcB := Lib.hid hKc
      have HXikB := Lib.hid (show Ext wkA wkB from hKc.ext HXcB.out (fun j hj => by omega))
      clear hBs hOI hKc HPCz hPn hPn0 hZn hZn0
      by_cases hzB : PEB = 0
      rotate_left
      · have HR : Hid (unmE s Z = PEB) := by
          show _ = _
          have e : seamE s Z k = PEB := by rw [HSE.out, if_neg (fun h => h rfl), if_neg (fun h => h HPA0.out), ← HPEB.out]
          rw [HUE.out, firstE_at hlt HT.out (by rw [e]; exact hzB), e]
        have hzb : (PEB != 0) = true := by simp [hzB]
        have HZ := Lib.hid hzB; clear hzB
        go_wp2_with fail
        go_ret2
        exact retUm_bad HR.out HZ.out (HXiB.out.trans HXikB.out)
      subst hzB
      have HPB0 := Lib.hid HPEB.out.symm; clear HPEB
      obtain ⟨hOB, hnB⟩ := HOIB.out rfl
      obtain rfl : nNB = n1B := (hnB.trans HNLB.out).symm
      have HOOB := Lib.hid (own_base_le hOB (Nat.zero_le _)); clear hOB hnB HOIB
      have HXwB := Lib.hid (HXiB.out.trans HXikB.out)
      have HU0 : Hid (Um2 wkB sbA sbB xb [.slice ANA nNA cNA, .slice A1A nNA c1A, .int .i64 ea, .int .i64 LA] [.slice ANB nNB cNB, .slice A1B nNB c1B, .int .i64 eb, .int .i64 LB] [.int .i64 PA, .int .i64 ea, .int .i64 PB, .int .i64 eb, .bool rv, .int .i64 es] (.slice A1A nNA c1A) (.slice A1B nNB c1B) (plL (gPc s.ps PA) M) (plL (gPc s.ps PB) M)) := ⟨HBkA.out.ext HXikB.out, HBkB.out, HSi.out.ext (HXik.out.trans HXikB.out), own_ext HOOA.out HXikB.out, HOOB.out⟩
      have HOKk := Lib.hid (own_ext HO.out ((HXr2.out.trans HXik.out).trans HXikB.out))
      have HX1k := Lib.hid ((HX2.out.trans HXik.out).trans HXikB.out)
      clear HXi HBi HSi HXik HXikB HBkA HBkB HOOA HOOB HBsA HBsB HXcA HXcB HKcA HKcB HXiB HBiB HSiB HSB HXr2 HX2 hslA hslB hxl HXw
      have POA := plE_zero.1 HPA0.out
      have POB := plE_zero.1 HPB0.out
      have HSE0 : Hid (seamE s Z k = 0) := by show _ = _; rw [HSE.out, if_neg (fun h => h rfl), if_neg (fun h => h HPA0.out)]; exact HPB0.out
      have HAL1 : Hid (∀ W, Ext w W → OwnI W 0 (.slice A1A nNA c1A) (plL (gPc s.ps PA) M) → OwnI W 0 (.slice A1B nNB c1B) (plL (gPc s.ps PB) M) → Calls Tryz.prog 26 #[.agg #[.slice ANA nNA cNA, .slice A1A nNA c1A, .int .i64 ea, .int .i64 LA], .agg #[.slice ANB nNB cNB, .slice A1B nNB c1B, .int .i64 eb, .int .i64 LB], .bool rv] W (RetAl W ⟨(gPc s.ps PA).ns, plL (gPc s.ps PA) M, ea, LA⟩ ⟨(gPc s.ps PB).ns, plL (gPc s.ps PB) M, eb, LB⟩ rv)) := fun W hX h1 h2 =>
        alone_any ⟨ANA, nNA, cNA, A1A, c1A⟩ ⟨ANB, nNB, cNB, A1B, c1B⟩ _ _ rv W (sd_at POA (HNAA.out.ext hX) HNLA.out h1) (sd_at POB (HNAB.out.ext hX) HNLB.out h2) (by show 0 ≤ LB; omega) (by show LB ≤ _; omega)
      have HAL2 : Hid (∀ W, Ext w W → OwnI W 0 (.slice A1A nNA c1A) (plL (gPc s.ps PA) M) → OwnI W 0 (.slice A1B nNB c1B) (plL (gPc s.ps PB) M) → Calls Tryz.prog 26 #[.agg #[.slice ANB nNB cNB, .slice A1B nNB c1B, .int .i64 eb, .int .i64 LB], .agg #[.slice ANA nNA cNA, .slice A1A nNA c1A, .int .i64 ea, .int .i64 LA], .bool rv] W (RetAl W ⟨(gPc s.ps PB).ns, plL (gPc s.ps PB) M, eb, LB⟩ ⟨(gPc s.ps PA).ns, plL (gPc s.ps PA) M, ea, LA⟩ rv)) := fun W hX h1 h2 =>
        alone_any ⟨ANB, nNB, cNB, A1B, c1B⟩ ⟨ANA, nNA, cNA, A1A, c1A⟩ _ _ rv W (sd_at POB (HNAB.out.ext hX) HNLB.out h2) (sd_at POA (HNAA.out.ext hX) HNLA.out h1) (by show 0 ≤ LA; omega) (by show LA ≤ _; omega)
      have HIS : Hid (seamIss s Z k = issK 1 k (alnL ⟨(gPc s.ps PA).ns, plL (gPc s.ps PA) M, ea, LA⟩ ⟨(gPc s.ps PB).ns, plL (gPc s.ps PB) M, eb, LB⟩ rv) ++ issK 2 k (alnL ⟨(gPc s.ps PB).ns, plL (gPc s.ps PB) M, eb, LB⟩ ⟨(gPc s.ps PA).ns, plL (gPc s.ps PA) M, ea, LA⟩ rv)) := by show _ = _; unfold seamIss; rw [HSA.out, HSBd.out, HSM.out]
      have HL1 : Hid ((alnL ⟨(gPc s.ps PA).ns, plL (gPc s.ps PA) M, ea, LA⟩ ⟨(gPc s.ps PB).ns, plL (gPc s.ps PB) M, eb, LB⟩ rv).length ≤ 16) := Nat.le_trans (alnTo_len _ _ _ _) POA.n
      have HL2 : Hid ((alnL ⟨(gPc s.ps PB).ns, plL (gPc s.ps PB) M, eb, LB⟩ ⟨(gPc s.ps PA).ns, plL (gPc s.ps PA) M, ea, LA⟩ rv).length ≤ 16) := Nat.le_trans (alnTo_len _ _ _ _) POB.n
      clear POA POB HSE HSA HSBd HPA0 HPB0 HNAA HNAB HNLA HNLB HSM
      obtain ⟨SA, hSA⟩ : ∃ SA : Sd, SA = ⟨(gPc s.ps PA).ns, plL (gPc s.ps PA) M, ea, LA⟩ := ⟨_, rfl⟩
      obtain ⟨SB, hSB⟩ : ∃ SB : Sd, SB = ⟨(gPc s.ps PB).ns, plL (gPc s.ps PB) M, eb, LB⟩ := ⟨_, rfl⟩
      rw [← hSA, ← hSB] at HAL1 HAL2 HIS HL1 HL2
      clear hSA hSB
      obtain ⟨L1, hL1⟩ : ∃ L1, alnL SA SB rv = L1 := ⟨_, rfl⟩
      obtain ⟨L2, hL2⟩ : ∃ L2, alnL SB SA rv = L2 := ⟨_, rfl⟩
      rw [hL1, hL2] at HIS
      rw [hL1] at HL1
      rw [hL2] at HL2
      have HE1 := Lib.hid hL1; have HE2 := Lib.hid hL2; clear hL1 hL2
      obtain ⟨f0, f1, f2, f3⟩ := blk4 HU0.out.a
      obtain ⟨g0, g1, g2, g3⟩ := blk4 HU0.out.b
      obtain ⟨x0, x1, x2, x3, x4, x5⟩ := blk6 HU0.out.x
      go_wp2_with fail
      refine (HAL1.out _ (HX1.out.trans HX1k.out) HU0.out.p HU0.out.q).mono ?_
      rintro e wa1 ⟨vL, rfl, hOL, heL⟩
      clear f0 f1 f2 f3 g0 g1 g2 g3 x0 x1 x2 x3 x4 x5
      rw [HE1.out] at hOL
      obtain ⟨AL1, cL1, hvL, _, _⟩ := OwnI.slice' (n := L1.length) hOL (castL_len _)
      subst hvL
      have HOL1 := Lib.hid (own_base_le hOL (Nat.zero_le _))
      have HU1 := Lib.hid (HU0.out.ext heL)
      have HOK1 := Lib.hid (own_ext HOKk.out heL)
      have HXn1 := Lib.hid (HX1k.out.trans heL)
      clear hOL heL
      go_wp2_with fail
      go_loopw [6, 112] (fun v i wr => ∃ j : Nat, j ≤ L1.length ∧ i = .int .i64 j ∧ OwnK wr w1.heap.size v (unmTo s Z k ++ issK 1 k (L1.take j)) ∧ Um2 wr sbA sbB xb [.slice ANA nNA cNA, .slice A1A nNA c1A, .int .i64 ea, .int .i64 LA] [.slice ANB nNB cNB, .slice A1B nNB c1B, .int .i64 eb, .int .i64 LB] [.int .i64 PA, .int .i64 ea, .int .i64 PB, .int .i64 eb, .bool rv, .int .i64 es] (.slice A1A nNA c1A) (.slice A1B nNB c1B) (plL (gPc s.ps PA) M) (plL (gPc s.ps PB) M) ∧ OwnI wr 0 (.slice AL1 L1.length cL1) (castL L1) ∧ Ext w1 wr) (fun _ i _ => L1.length - (intOf i).toNat)
      case atStart => exact ⟨0, Nat.zero_le _, rfl, by rw [List.take_zero, show issK 1 k [] = [] from rfl, List.append_nil]; exact HOK1.out, HU1.out, HOL1.out, HXn1.out⟩
      case round =>
      obtain ⟨j, hj, rfl, hoj, huj, holj, hxj⟩ := hrel
      have HOj1 := Lib.hid hoj; have HUj1 := Lib.hid huj; have HOLj1 := Lib.hid holj; have HXj1 := Lib.hid hxj; clear hoj huj holj hxj
      by_cases hlt1 : j < L1.length
      · obtain ⟨bl, ol, hAL, q0⟩ := ((OwnI.plain HOLj1.out).2.1).g (k := j) (by rw [castL_len]; exact hlt1)
        subst hAL
        rw [castL_get hlt1] at q0
        have HTK := Lib.hid (issK_take (kind := 1) (k := k) hlt1)
        obtain ⟨nv, hnv⟩ : ∃ nv : Nat, nv = L1[j] := ⟨_, rfl⟩
        rw [← hnv] at q0 HTK
        clear hnv
        obtain ⟨LK, hLK⟩ : ∃ LK, LK = unmTo s Z k ++ issK 1 k (L1.take j) := ⟨_, rfl⟩
        have hlk : LK.length ≤ 40000 := by
          rw [hLK]
          have e0 := HLEN.out
          have e1 := HL1.out
          skip
          simp only [List.length_append, issK_len, List.length_take]
          omega
        rw [← hLK] at HOj1
        have HLT := Lib.hid hlt1
        have hj16 : j < 16 := Nat.lt_of_lt_of_le hlt1 HL1.out
        have HLKE := Lib.hid hLK; clear hLK
        have hjj : (j : Int) < (L1.length : Nat) := by omega
        have hjj0 : (0 : Int) ≤ j := by omega
        have hbb : w1.heap.size ≤ wr.heap.size := HXj1.out.size
        have H63 : Hid (LK.length + 1 ≤ maxLen) := by show _ ≤ _; unfold maxLen; omega
        have H64 : Hid ((LK.length + 1) * 24 ≤ 140737488355328) := by show _ ≤ _; omega
        have HC6 : Hid (w1.heap.size ≤ (wr.alloc (.cells #[.int .i64 1, .int .i64 (k : Int), .int .i64 (nv : Int)] 59)).heap.size) := by show _ ≤ _; simp; omega
        go_wp2_with (at_builtin; refine wpList_append_own _ rfl (.tmp 116) (.tmp 120) 46 rfl w1.heap.size 59 i0 (.agg #[.int .i64 0, .int .i64 0, .int .i64 0]) 3 24 Tryz.underlying46 hi0 hz0 hz1 hz2 rfl (by decide) _ LK.length (isscells LK) rfl (World.ownsRow.alloc HOj1.out _) ⟨wr.heap.size, 0, none⟩ 1 1 [.int .i64 1, .int .i64 (k : Int), .int .i64 (nv : Int)] rfl rfl (World.news_of_block (cs := #[.int .i64 1, .int .i64 (k : Int), .int .i64 (nv : Int)]) (t := 59) (fr := (0, 0)) (heap_alloc_new wr _)) (by simp [Value.oneCell']) H63.out H64.out HC6.out ?_)
        intro v' w4 hown' hgrow _
        have hO' : OwnK w4 w1.heap.size v' (unmTo s Z k ++ issK 1 k (L1.take (j + 1))) := by
          rw [HTK.out, ← List.append_assoc, ← HLKE.out]
          unfold OwnK
          rw [List.length_append, isscells_append]
          exact hown'
        have hx' : Ext w1 w4 := (HXj1.out.alloc _).grown hgrow (fun g hg => (World.ownsRow.lt HOj1.out g hg).1)
        have hu' := (HUj1.out.ext ((Ext.refl _).alloc _)).grown (World.ownsRow.alloc HOj1.out _) hgrow
        have hol' := own_grown (own_ext HOLj1.out ((Ext.refl _).alloc _)) (World.ownsRow.alloc HOj1.out _) (by decide) hgrow
        have HO' := Lib.hid hO'; have HU' := Lib.hid hu'; have HOL' := Lib.hid hol'; clear hO' hown' hgrow hu' hol'
        go_wp2_with fail
        go_roundw
        case rel => exact ⟨j + 1, HLT.out, by go_num, HO'.out, HU'.out, HOL'.out, hx'⟩
        case measure => have := HLT.out; simp [intOf]; omega
      obtain rfl : j = L1.length := by omega
      rw [List.take_length] at HOj1
      clear hlt1
      obtain ⟨f0, f1, f2, f3⟩ := blk4 HUj1.out.a
      obtain ⟨g0, g1, g2, g3⟩ := blk4 HUj1.out.b
      obtain ⟨x0, x1, x2, x3, x4, x5⟩ := blk6 HUj1.out.x
      go_wp2_with fail
      refine (HAL2.out _ (HX1.out.trans HXj1.out) HUj1.out.p HUj1.out.q).mono ?_
      rintro e wa2 ⟨vL, rfl, hOL, heL⟩
      clear f0 f1 f2 f3 g0 g1 g2 g3 x0 x1 x2 x3 x4 x5
      rw [HE2.out] at hOL
      obtain ⟨AL2, cL2, hvL, _, _⟩ := OwnI.slice' (n := L2.length) hOL (castL_len _)
      subst hvL
      have HOL2 := Lib.hid (own_base_le hOL (Nat.zero_le _))
      have HU2 := Lib.hid (HUj1.out.ext heL)
      have HOK2 := Lib.hid (own_ext HOj1.out heL)
      have HXn2 := Lib.hid (HXj1.out.trans heL)
      clear hOL heL
      go_wp2_with fail
      go_loopw [6, 129] (fun v i wr => ∃ j : Nat, j ≤ L2.length ∧ i = .int .i64 j ∧ OwnK wr w1.heap.size v (unmTo s Z k ++ issK 1 k L1 ++ issK 2 k (L2.take j)) ∧ Um2 wr sbA sbB xb [.slice ANA nNA cNA, .slice A1A nNA c1A, .int .i64 ea, .int .i64 LA] [.slice ANB nNB cNB, .slice A1B nNB c1B, .int .i64 eb, .int .i64 LB] [.int .i64 PA, .int .i64 ea, .int .i64 PB, .int .i64 eb, .bool rv, .int .i64 es] (.slice A1A nNA c1A) (.slice A1B nNB c1B) (plL (gPc s.ps PA) M) (plL (gPc s.ps PB) M) ∧ OwnI wr 0 (.slice AL2 L2.length cL2) (castL L2) ∧ Ext w1 wr) (fun _ i _ => L2.length - (intOf i).toNat)
      case atStart => exact ⟨0, Nat.zero_le _, rfl, by rw [List.take_zero, show issK 2 k [] = [] from rfl, List.append_nil]; exact HOK2.out, HU2.out, HOL2.out, HXn2.out⟩
      case round =>
      obtain ⟨j, hj, rfl, hoj, huj, holj, hxj⟩ := hrel
      have HOj2 := Lib.hid hoj; have HUj2 := Lib.hid huj; have HOLj2 := Lib.hid holj; have HXj2 := Lib.hid hxj; clear hoj huj holj hxj
      by_cases hlt2 : j < L2.length
      · obtain ⟨bl, ol, hAL, q0⟩ := ((OwnI.plain HOLj2.out).2.1).g (k := j) (by rw [castL_len]; exact hlt2)
        subst hAL
        rw [castL_get hlt2] at q0
        have HTK := Lib.hid (issK_take (kind := 2) (k := k) hlt2)
        obtain ⟨nv, hnv⟩ : ∃ nv : Nat, nv = L2[j] := ⟨_, rfl⟩
        rw [← hnv] at q0 HTK
        clear hnv
        obtain ⟨LK, hLK⟩ : ∃ LK, LK = unmTo s Z k ++ issK 1 k L1 ++ issK 2 k (L2.take j) := ⟨_, rfl⟩
        have hlk : LK.length ≤ 40000 := by
          rw [hLK]
          have e0 := HLEN.out
          have e1 := HL1.out
          have e2 := HL2.out
          simp only [List.length_append, issK_len, List.length_take]
          omega
        rw [← hLK] at HOj2
        have HLT := Lib.hid hlt2
        have hj16 : j < 16 := Nat.lt_of_lt_of_le hlt2 HL2.out
        have HLKE := Lib.hid hLK; clear hLK
        have hjj : (j : Int) < (L2.length : Nat) := by omega
        have hjj0 : (0 : Int) ≤ j := by omega
        have hbb : w1.heap.size ≤ wr.heap.size := HXj2.out.size
        have H63 : Hid (LK.length + 1 ≤ maxLen) := by show _ ≤ _; unfold maxLen; omega
        have H64 : Hid ((LK.length + 1) * 24 ≤ 140737488355328) := by show _ ≤ _; omega
        have HC6 : Hid (w1.heap.size ≤ (wr.alloc (.cells #[.int .i64 2, .int .i64 (k : Int), .int .i64 (nv : Int)] 59)).heap.size) := by show _ ≤ _; simp; omega
        go_wp2_with (at_builtin; refine wpList_append_own _ rfl (.tmp 133) (.tmp 137) 46 rfl w1.heap.size 59 i0 (.agg #[.int .i64 0, .int .i64 0, .int .i64 0]) 3 24 Tryz.underlying46 hi0 hz0 hz1 hz2 rfl (by decide) _ LK.length (isscells LK) rfl (World.ownsRow.alloc HOj2.out _) ⟨wr.heap.size, 0, none⟩ 1 1 [.int .i64 2, .int .i64 (k : Int), .int .i64 (nv : Int)] rfl rfl (World.news_of_block (cs := #[.int .i64 2, .int .i64 (k : Int), .int .i64 (nv : Int)]) (t := 59) (fr := (0, 0)) (heap_alloc_new wr _)) (by simp [Value.oneCell']) H63.out H64.out HC6.out ?_)
        intro v' w4 hown' hgrow _
        have hO' : OwnK w4 w1.heap.size v' (unmTo s Z k ++ issK 1 k L1 ++ issK 2 k (L2.take (j + 1))) := by
          rw [HTK.out, ← List.append_assoc, ← HLKE.out]
          unfold OwnK
          rw [List.length_append, isscells_append]
          exact hown'
        have hx' : Ext w1 w4 := (HXj2.out.alloc _).grown hgrow (fun g hg => (World.ownsRow.lt HOj2.out g hg).1)
        have hu' := (HUj2.out.ext ((Ext.refl _).alloc _)).grown (World.ownsRow.alloc HOj2.out _) hgrow
        have hol' := own_grown (own_ext HOLj2.out ((Ext.refl _).alloc _)) (World.ownsRow.alloc HOj2.out _) (by decide) hgrow
        have HO' := Lib.hid hO'; have HU' := Lib.hid hu'; have HOL' := Lib.hid hol'; clear hO' hown' hgrow hu' hol'
        go_wp2_with fail
        go_roundw
        case rel => exact ⟨j + 1, HLT.out, by go_num, HO'.out, HU'.out, HOL'.out, hx'⟩
        case measure => have := HLT.out; simp [intOf]; omega
      obtain rfl : j = L2.length := by omega
      rw [List.take_length] at HOj2
      clear hlt2
      go_wp2_with fail
      go_roundw
      case rel =>
        refine ⟨k + 1, by omega, by go_num, firstE_succ HT.out HSE0.out, ?_, ?_, HXj2.out⟩
        · rw [unmTo_succ, HIS.out, ← List.append_assoc]; exact HOj2.out
        · rw [unmTo_succ, HIS.out]
          have e0 := HLEN.out
          have e1 := HL1.out
          have e2 := HL2.out
          simp only [List.length_append, issK_len]
          omega
      case measure => simp [intOf]; omega
    · obtain rfl : k = nK := by omega
      go_wp2_with fail
      go_ret2
      have hE0 : unmE s Z = 0 := by rw [HUE.out]; exact HT.out
      refine ⟨_, by rw [hE0]; rfl, fun _ => ?_, fun h => absurd hE0 h, HXw.out⟩
      unfold unmL
      rw [HLK.out]
      exact own_base_le HO.out HX1.out.size
end Go.Proofs.YtliijigdbpmpaaaGreat
