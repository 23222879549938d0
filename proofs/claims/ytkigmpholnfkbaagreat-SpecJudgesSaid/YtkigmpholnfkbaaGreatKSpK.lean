/- spec.Judge, Within -/
import Derived.Test.YtkigmpholnfkbaaGreatKSpG
/- spec.Target, Judge, Within -/
namespace Go.Proofs.YtkigmpholnfkbaaGreat
open Go.RowKit
theorem gPm_one (p : PomX) : gPm [p] 0 = p := rfl
theorem poms_one {w : World} {g : Nat} {q : PomA} {p : PomX} (h : Blk 36 w g (PomA.cells q)) (hp : PomAt w q p) : PomsAt w (some ⟨g, 0, none⟩) [p] := fun k hk => by
  obtain rfl : k = 0 := by simpa using hk
  obtain ⟨c0, c1, c2, c3, c4⟩ := blk5 h
  exact ⟨g, 0, q, rfl, hp, c0, c1, c2, c3, c4⟩
theorem targ_1 {x : StyX} {p : PomX} {z : Int} (h : spcE x [p] ≠ 0) : targE x p z = spcE x [p] ∧ targV x p z = 0 := by
  have e : targE x p z = spcE x [p] := by unfold targE; rw [if_pos h]
  refine ⟨e, ?_⟩
  unfold targV; rw [e, if_pos h]
theorem targ_2 {x : StyX} {p : PomX} {z : Int} (h : spcE x [p] = 0) (hz : z < 0 ∨ (x.sz.length : Int) ≤ z) : targE x p z = 3 ∧ targV x p z = 0 := by
  have e : targE x p z = 3 := by unfold targE; rw [if_neg (fun h' => h' h), if_pos hz]
  refine ⟨e, ?_⟩
  unfold targV; rw [e, if_pos (by decide)]
theorem targ_3 {x : StyX} {p : PomX} {z : Int} (h : spcE x [p] = 0) (hz : ¬ (z < 0 ∨ (x.sz.length : Int) ≤ z)) : targE x p z = tgE x p (gI x.ms z.toNat) ∧ targV x p z = tgV x p (gI x.ms z.toNat) := by
  have e : targE x p z = tgE x p (gI x.ms z.toNat) := by unfold targE; rw [if_neg (fun h' => h' h), if_neg hz]
  refine ⟨e, ?_⟩
  unfold targV tgV; rw [e]
theorem sty_ms {x : StyX} (h : styE x = 0) : x.ms.length = x.sz.length := (whole_ms (styE_zero h).1).1
set_option maxRecDepth 100000 in
set_option maxHeartbeats 3200000 in
theorem targX_any (a : StyA) (x : StyX) (q : PomA) (p : PomX) (z : Int) (w : World) (hs : StyXAt w a x) (hN : x.sz.length ≤ 1000) (hZ : ∀ k, k < x.sz.length → (gB x.sz k).size ≤ 1000) (hp : PomAt w q p) :
    Calls Tryz.prog 15 #[a.val, q.val, .int .i64 z] w (RetTg w (targV x p z) (targE x p z)) := by
  have HS := Lib.hid hs
  have HQ := Lib.hid hp
  have HCC := Lib.hid (fun W g (h : Ext w W) (hb : Blk 36 W g (PomA.cells q)) => spCheck_any a x (some ⟨g, 0, none⟩) 1 1 [p] W (hs.ext h) hN hZ (poms_one hb (hp.ext h)) rfl (Nat.le_refl _) (by omega))
  have HCT := Lib.hid (fun (hok : PomOk x p) W m (h : Ext w W) => target_any a x q p m W (hs.ext h) (hp.ext h) hok.le hok.n1 hok.rf)
  clear hs hp hN hZ
  obtain ⟨nm, AS, nS, cS, AM, nM, cM, AP, nP, cP, AU, nU, cU, AK, nK, cK, AO, nO, cO⟩ := a
  have HLS : Hid (x.sz.length = nS) := HS.out.lS
  have HLM : Hid (x.ms.length = nM) := HS.out.lM
  have HMS := Lib.hid HS.out.M
  have hbS : nS ≤ 9223372036854775807 := HS.out.bS
  clear HS HQ
  obtain ⟨pn, pAP, pnP, pcP, pAE, pnE, pcE, ppl, pmi⟩ := q
  simp only [StyA.val, PomA.val, PomA.cells] at HMS HCC HCT ⊢
  have HT1 := Lib.hid (@targ_1 x p z)
  have HT2 := Lib.hid (@targ_2 x p z)
  have HT3 := Lib.hid (@targ_3 x p z)
  have HS1 := Lib.hid (@spcE_one x p)
  obtain ⟨TE, hTE⟩ : ∃ y, y = targE x p z := ⟨_, rfl⟩
  obtain ⟨TV, hTV⟩ : ∃ y, y = targV x p z := ⟨_, rfl⟩
  rw [← hTE, ← hTV] at HT1 HT2 HT3 ⊢
  clear hTE hTV
  go_enter Tryz.func15, Tryz.ntmps15
  go_wp2_with fail
  refine (HCC.out _ (w.heap.size + 1 + 1) ((((Ext.refl _).alloc _).alloc _).alloc _) (Blk.new' (by simp))).mono ?_
  rintro e w1 ⟨rfl, he1⟩
  have HB1 : Hid (Blk 29 w1 w.heap.size [.string nm, .slice AS nS cS, .slice AM nM cM, .slice AP nP cP, .slice AU nU cU, .slice AK nK cK, .slice AO nO cO]) := (((Blk.new' rfl).ext ((Ext.refl _).alloc _)).ext ((Ext.refl _).alloc _)).ext he1
  have HN1 : Hid (Blk 36 w1 (w.heap.size + 1) [.string pn, .slice pAP pnP pcP, .slice pAE pnE pcE, .int .i64 ppl, .int .i64 pmi]) := ((Blk.new' (by simp)).ext ((Ext.refl _).alloc _)).ext he1
  have HX1 : Hid (Ext w w1) := ((((Ext.refl _).alloc _).alloc _).alloc _).trans he1
  clear he1 HCC
  obtain ⟨SP, hSP⟩ : ∃ y, y = spcE x [p] := ⟨_, rfl⟩
  rw [← hSP] at HT1 HT2 HT3 HS1 ⊢
  clear hSP
  by_cases hz : SP = 0
  rotate_left
  · have HR := Lib.hid (HT1.out hz)
    have hzb : (SP != 0) = true := by simp [hz]
    clear hz
    go_wp2_with fail
    go_ret2
    exact ⟨by rw [HR.out.1, HR.out.2]; rfl, HX1.out⟩
  obtain ⟨hse, hok⟩ := HS1.out.1 hz
  have HML : Hid (nM = nS) := by show _ = _; rw [← HLM.out, ← HLS.out]; exact sty_ms hse
  have HCU := Lib.hid (HCT.out hok)
  have HT2' := Lib.hid (HT2.out hz)
  have HT3' := Lib.hid (HT3.out hz)
  rw [HLS.out] at HT2' HT3'
  subst hz
  clear HT1 HT2 HT3 HS1 HCT hse hok
  obtain ⟨c0, c1, c2, c3, c4, c5, c6⟩ := blk7 HB1.out
  by_cases g0 : z < 0
  · have HR := Lib.hid (HT2'.out (Or.inl g0))
    go_wp2_with fail
    go_ret2
    exact ⟨by rw [HR.out.1, HR.out.2]; rfl, HX1.out⟩
  by_cases g1 : (nS : Int) ≤ z
  · have HR := Lib.hid (HT2'.out (Or.inr g1))
    go_wp2_with fail
    go_ret2
    exact ⟨by rw [HR.out.1, HR.out.2]; rfl, HX1.out⟩
  have HR := Lib.hid (HT3'.out (by omega))
  clear HT2' HT3'
  obtain ⟨Z, rfl⟩ := Int.eq_ofNat_of_zero_le (show 0 ≤ z by omega)
  rw [Int.toNat_natCast] at HR
  have hZM : Z < nM := by have := HML.out; omega
  obtain ⟨bm, om, hAM, m0⟩ := (HMS.out.ext HX1.out).g (k := Z) (by rw [HLM.out]; exact hZM)
  subst hAM
  obtain ⟨M, hM⟩ : ∃ M, M = gI x.ms Z := ⟨_, rfl⟩
  rw [← hM] at m0 HR
  clear hM
  obtain ⟨a0, a1, a2, a3, a4⟩ := blk5 HN1.out
  obtain ⟨ME, hME⟩ : ∃ y, y = tgE x p M := ⟨_, rfl⟩
  obtain ⟨MV, hMV⟩ : ∃ y, y = tgV x p M := ⟨_, rfl⟩
  rw [← hME, ← hMV] at HR
  have HCV : Hid (∀ W, Ext w1 W → Calls Tryz.prog 35 #[.agg #[.string nm, .slice AS nS cS, .slice (some ⟨bm, om, none⟩) nM cM, .slice AP nP cP, .slice AU nU cU, .slice AK nK cK, .slice AO nO cO], .agg #[.string pn, .slice pAP pnP pcP, .slice pAE pnE pcE, .int .i64 ppl, .int .i64 pmi], .int .i64 M] W fun e w' => e = .returned (.tuple #[.int .i64 MV, .int .i64 ME]) ∧ Ext W w') := fun W h => by
    rw [hME, hMV]; exact HCU.out W M (HX1.out.trans h)
  clear hME hMV HCU
  have z0 := fun z : After w1 => After.cell c0 z
  have z1 := fun z : After w1 => After.cell c1 z
  have z2 := fun z : After w1 => After.cell c2 z
  have z3 := fun z : After w1 => After.cell c3 z
  have z4 := fun z : After w1 => After.cell c4 z
  have z5 := fun z : After w1 => After.cell c5 z
  have z6 := fun z : After w1 => After.cell c6 z
  have y0 := fun z : After w1 => After.cell a0 z
  have y1 := fun z : After w1 => After.cell a1 z
  have y2 := fun z : After w1 => After.cell a2 z
  have y3 := fun z : After w1 => After.cell a3 z
  have y4 := fun z : After w1 => After.cell a4 z
  have x0 := fun z : After w1 => After.cell m0 z
  go_wp2_with fail
  refine region_ext (by kernel_rfl) (by kernel_rfl) ?_
  repeat (first | go_big_quiet_step ((go_at_call 35; exact after_call (HCV.out _ (After.ext _)))) | (go_big_quiet_want; go_simp; go_big_quiet_on))
  refine wpQuiet_nil ?_
  rintro w4 ⟨⟨_, he4⟩, rfl⟩
  have HX4 := Lib.hid (HX1.out.trans he4)
  clear z0 z1 z2 z3 z4 z5 z6 y0 y1 y2 y3 y4 x0 a0 a1 a2 a3 a4 c0 c1 c2 c3 c4 c5 c6 m0 he4 HCV
  go_wp2_with fail
  go_ret2
  exact ⟨by rw [HR.out.1, HR.out.2]; rfl, HX4.out⟩
end Go.Proofs.YtkigmpholnfkbaaGreat
namespace Go.Proofs.YtkigmpholnfkbaaGreat
open Go.RowKit
theorem make_ints (n : Nat) (hn : n ≤ 1000) (w : World) : (Instr.makeSlice 23 (.int .i64 n) (.int .i64 n)).run Tryz.prog w = .ok (.slice (some ⟨w.heap.size, 0, none⟩) n n) (w.alloc (.cells (icells (List.replicate n 0)).toArray 3)) := by
  have h := run_make (P := Tryz.prog) w 23 3 (i := ((Tryz.prog.info? 3).getD default)) (z := .int .i64 0) Tryz.underlying23 (by kernel_rfl) (by kernel_rfl) .i64 .i64 n n (by omega) (by omega) (by
    rw [show ((Tryz.prog.info? 3).getD default).bytes = 8 from by kernel_rfl]; omega) (by omega)
  rw [show ((Tryz.prog.info? 3).getD default).size = 1 from by kernel_rfl] at h
  rw [show (icells (List.replicate n 0)).toArray = madeCells #[.int .i64 0] (n * 1) from by rw [made_one]; simp [icells]]
  simpa [Value.cells] using h
/- the values so far -/
def JdL (f : Nat → Int) (n k : Nat) (L : List Int) : Prop := L.length = n ∧ (∀ i, i < k → gI L i = f i) ∧ ∀ i, k ≤ i → i < n → gI L i = 0
theorem jdL_start (f : Nat → Int) (n : Nat) : JdL f n 0 (List.replicate n 0) := ⟨by simp, fun i hi => absurd hi (Nat.not_lt_zero _), fun i _ hi => by unfold gI; simp [hi]⟩
theorem jdL_zero {f : Nat → Int} {n k : Nat} {L : List Int} (h : JdL f n k L) (hk : k < n) (h0 : f k = 0) : JdL f n (k + 1) L :=
  ⟨h.1, fun i hi => by
    rcases Nat.lt_succ_iff_lt_or_eq.1 hi with h1 | h1
    · exact h.2.1 i h1
    · subst h1; rw [h0]; exact h.2.2 i (Nat.le_refl _) hk, fun i hi hn => h.2.2 i (by omega) hn⟩
theorem jdL_set {f : Nat → Int} {n k : Nat} {L : List Int} {v : Int} (h : JdL f n k L) (hk : k < n) (h0 : f k = v) : JdL f n (k + 1) (L.set k v) :=
  ⟨by rw [List.length_set]; exact h.1, fun i hi => by
    rw [gI_set (by rw [h.1]; exact hk)]
    rcases Nat.lt_succ_iff_lt_or_eq.1 hi with h1 | h1
    · rw [if_neg (by omega)]; exact h.2.1 i h1
    · rw [if_pos h1, h1, h0], fun i hi hn => by
    rw [gI_set (by rw [h.1]; exact hk), if_neg (by omega)]; exact h.2.2 i (by omega) hn⟩
theorem jdL_end {f : Nat → Int} {n : Nat} {L : List Int} (h : JdL f n n L) : L = (List.range n).map f := by
  apply List.ext_getElem (by simp [h.1])
  intro i h1 h2
  rw [← gI_eq h1, h.2.1 i (by rw [← h.1]; exact h1)]; simp
def RetJd (w : World) (r : Int) (L : List Int) (e : Ending) (w' : World) : Prop :=
  ∃ v, e = .returned (.tuple #[v, .int .i64 r]) ∧ (r = 0 → OwnI w' w.heap.size v L) ∧ (r ≠ 0 → v = .slice none 0 0) ∧ Ext w w'
theorem retJd_bad {w w' : World} {r y : Int} {L : List Int} (h : r = y) (hy : y ≠ 0) (he : Ext w w') : RetJd w r L (.returned (.tuple #[.slice none 0 0, .int .i64 y])) w' :=
  ⟨_, by rw [h], fun h0 => absurd (h.symm.trans h0) hy, fun _ => rfl, he⟩
def jvF (x : StyX) (l : List PomX) (m : Int) (vs : List Int) (i : Nat) : Int := judV (gPm l i) (tgTo x (gPm l i) m (gPm l i).ps.length : Int) (gI vs i)
theorem jud_eq (x : StyX) (l : List PomX) (z : Int) (vs : List Int) : judE x l z vs = if spcE x l ≠ 0 then spcE x l else if vs.length ≠ l.length then 1 else if z < 0 ∨ (x.sz.length : Int) ≤ z then 3 else firstE (jdE x l (gI x.ms z.toNat) vs) l.length := rfl
theorem judL_eq (x : StyX) (l : List PomX) (z : Int) (vs : List Int) : judL x l z vs = (List.range l.length).map (jvF x l (gI x.ms z.toNat) vs) := rfl
set_option maxRecDepth 100000 in
set_option maxHeartbeats 6400000 in
theorem judge_any (a : StyA) (x : StyX) (A : Option Addr) (n c : Nat) (l : List PomX) (z : Int) (B : Option Addr) (nv cv : Nat) (vs : List Int) (w : World) (hs : StyXAt w a x) (hN : x.sz.length ≤ 1000) (hZ : ∀ k, k < x.sz.length → (gB x.sz k).size ≤ 1000)
    (hP : PomsAt w A l) (hl : l.length = n) (hc : n ≤ c) (hc' : c ≤ 9223372036854775807) (hV : IntsAt w B vs) (hv : vs.length = nv) (hnv : nv ≤ 9223372036854775807) :
    Calls Tryz.prog 17 #[a.val, .slice A n c, .int .i64 z, .slice B nv cv] w (RetJd w (judE x l z vs) (judL x l z vs)) := by
  have HS := Lib.hid hs
  have HCC := Lib.hid (fun W (h : Ext w W) => spCheck_any a x A n c l W (hs.ext h) hN hZ (hP.ext h) hl hc hc')
  have HCT := Lib.hid (fun q p m W (h : Ext w W) (hq : PomAt W q p) (hok : PomOk x p) => target_any a x q p m W (hs.ext h) hq hok.le hok.n1 hok.rf)
  clear hs hN hZ
  have HP := Lib.hid hP; clear hP
  have HL := Lib.hid hl; clear hl
  have HV := Lib.hid hV; clear hV
  have HLV := Lib.hid hv; clear hv
  obtain ⟨nm, AS, nS, cS, AM, nM, cM, AP, nP, cP, AU, nU, cU, AK, nK, cK, AO, nO, cO⟩ := a
  have HLS : Hid (x.sz.length = nS) := HS.out.lS
  have HLM : Hid (x.ms.length = nM) := HS.out.lM
  have HMS := Lib.hid HS.out.M
  have hbS : nS ≤ 9223372036854775807 := HS.out.bS
  clear HS
  simp only [StyA.val] at HMS HCC HCT ⊢
  have HS1 := Lib.hid (@spcE_zero x l)
  have HJE := Lib.hid (jud_eq x l z vs)
  have HJL := Lib.hid (judL_eq x l z vs)
  rw [HLS.out, HL.out, HLV.out] at HJE
  rw [HL.out] at HJL
  obtain ⟨JE, hJE⟩ : ∃ y, y = judE x l z vs := ⟨_, rfl⟩
  obtain ⟨JL, hJL⟩ : ∃ y, y = judL x l z vs := ⟨_, rfl⟩
  rw [← hJE] at HJE ⊢
  rw [← hJL] at HJL ⊢
  clear hJE hJL
  have hmk := fun W : World => make_ints n
  clear hmk
  go_enter Tryz.func17, Tryz.ntmps17
  go_wp2_with fail
  refine (HCC.out _ ((Ext.refl _).alloc _)).mono ?_
  rintro e w1 ⟨rfl, he1⟩
  have HB1 : Hid (Blk 29 w1 w.heap.size [.string nm, .slice AS nS cS, .slice AM nM cM, .slice AP nP cP, .slice AU nU cU, .slice AK nK cK, .slice AO nO cO]) := (Blk.new' rfl).ext he1
  have HX1 : Hid (Ext w w1) := ((Ext.refl _).alloc _).trans he1
  clear he1 HCC
  obtain ⟨SP, hSP⟩ : ∃ y, y = spcE x l := ⟨_, rfl⟩
  rw [← hSP] at HJE HS1 ⊢
  clear hSP
  by_cases hz : SP = 0
  rotate_left
  · have HR : Hid (JE = SP) := by show _ = _; rw [HJE.out, if_pos hz]
    have hzb : (SP != 0) = true := by simp [hz]
    have HZ := Lib.hid hz
    clear hz
    go_wp2_with fail
    go_ret2
    exact retJd_bad HR.out HZ.out HX1.out
  obtain ⟨hse, h16, hoks⟩ := HS1.out.1 hz
  have HML : Hid (nM = nS) := by show _ = _; rw [← HLM.out, ← HLS.out]; exact sty_ms hse
  rw [HL.out] at h16
  have HOK := Lib.hid (fun i (h : i < l.length) => (hoks i h).1)
  subst hz
  clear HS1 hse hoks
  simp only [ne_eq, not_true_eq_false, if_false] at HJE
  obtain ⟨c0, c1, c2, c3, c4, c5, c6⟩ := blk7 HB1.out
  by_cases hvn : nv = n
  rotate_left
  · have HR : Hid (JE = 1) := by show _ = _; rw [HJE.out, if_pos hvn]
    have hzb : ((nv : Int) != (n : Int)) = true := by simp; omega
    clear hvn
    go_wp2_with fail
    go_ret2
    exact retJd_bad HR.out (by decide) HX1.out
  have hvb : ((nv : Int) != (n : Int)) = false := by simp; omega
  have HJE1 : Hid (JE = if z < 0 ∨ (nS : Int) ≤ z then 3 else firstE (jdE x l (gI x.ms z.toNat) vs) n) := by show _ = _; rw [HJE.out, if_neg (fun h => h hvn)]
  have HVN := Lib.hid hvn
  clear hvn HJE
  by_cases g0 : z < 0
  · have HR : Hid (JE = 3) := by show _ = _; rw [HJE1.out, if_pos (Or.inl g0)]
    go_wp2_with fail
    go_ret2
    exact retJd_bad HR.out (by decide) HX1.out
  by_cases g1 : (nS : Int) ≤ z
  · have HR : Hid (JE = 3) := by show _ = _; rw [HJE1.out, if_pos (Or.inr g1)]
    go_wp2_with fail
    go_ret2
    exact retJd_bad HR.out (by decide) HX1.out
  have HJE2 : Hid (JE = firstE (jdE x l (gI x.ms z.toNat) vs) n) := by show _ = _; rw [HJE1.out, if_neg (by omega)]
  clear HJE1
  obtain ⟨Z, rfl⟩ := Int.eq_ofNat_of_zero_le (show 0 ≤ z by omega)
  rw [Int.toNat_natCast] at HJE2 HJL
  have zb0 : decide ((Z : Int) < 0) = false := decide_eq_false g0
  have zb1 : decide ((nS : Int) ≤ (Z : Int)) = false := decide_eq_false g1
  have zb2 : decide (nS ≤ Z) = false := decide_eq_false (by omega)
  have hZM : Z < nM := by have := HML.out; omega
  obtain ⟨M, hM⟩ : ∃ M, M = gI x.ms Z := ⟨_, rfl⟩
  rw [← hM] at HJE2 HJL
  have HMM : Hid (∀ W, Ext w W → ∃ b o, AM = some ⟨b, o, none⟩ ∧ W.cell? ⟨b, o + Z, none⟩ = some (.int .i64 M)) := fun W h => by
    rw [hM]; exact (HMS.out.ext h).g (k := Z) (by rw [HLM.out]; exact hZM)
  clear hM
  have hmk := make_ints n (by omega)
  go_upto_region 9 with fail
  refine wp_at fun w2 hw2 => ?_
  have HX2 : Hid (Ext w w2) := by show Ext _ _; rw [hw2]; exact HX1.out.alloc _
  have HB2 : Hid (Blk 29 w2 w.heap.size [.string nm, .slice AS nS cS, .slice AM nM cM, .slice AP nP cP, .slice AU nU cU, .slice AK nK cK, .slice AO nO cO]) := by show Blk _ _ _ _; rw [hw2]; exact HB1.out.ext ((Ext.refl _).alloc _)
  have HR2 : Hid (Blk 3 w2 w1.heap.size (icells (List.replicate n 0))) := by show Blk _ _ _ _; rw [hw2]; exact Blk.new' rfl
  have HG2 : Hid (w.heap.size < w1.heap.size) := HB1.out.lt
  obtain ⟨R, hR⟩ : ∃ R, R = w1.heap.size := ⟨_, rfl⟩
  rw [← hR] at HR2 HG2 ⊢
  clear hR hw2 c0 c1 c2 c3 c4 c5 c6 hmk
  go_wp2_with fail
  go_loopw [43] (fun i wr => ∃ (k : Nat) (L : List Int), k ≤ n ∧ i = .int .i64 k ∧ firstE (jdE x l M vs) k = 0 ∧ JdL (jvF x l M vs) n k L ∧ Blk 3 wr R (icells L) ∧ Blk 29 wr w.heap.size [.string nm, .slice AS nS cS, .slice AM nM cM, .slice AP nP cP, .slice AU nU cU, .slice AK nK cK, .slice AO nO cO] ∧ Ext w wr) (fun i _ => n - (intOf i).toNat)
  case atStart => exact ⟨0, _, Nat.zero_le _, rfl, rfl, jdL_start _ _, HR2.out, HB2.out, HX2.out⟩
  case round =>
    obtain ⟨k, L, hk, rfl, hall, hjl, hbr, hbs, hx⟩ := hrel
    have HALL := Lib.hid hall; have HJD := Lib.hid hjl; have HBR := Lib.hid hbr; have HBS := Lib.hid hbs; have HX := Lib.hid hx
    clear hall hjl hbr hbs hx
    by_cases hlt : k < n
    rotate_left
    · obtain rfl : k = n := by omega
      have HR : Hid (JE = 0) := by show _ = _; rw [HJE2.out]; exact HALL.out
      go_wp2_with fail
      go_ret2
      refine ⟨_, by rw [HR.out]; rfl, fun _ => ?_, fun h => absurd HR.out h, HX.out⟩
      have hL := jdL_end HJD.out
      rw [HJL.out, ← hL]
      have ho := own_of_int (base := w.heap.size) HBR.out (Nat.le_of_lt HG2.out) (by rw [HJD.out.1]; omega)
      rw [HJD.out.1] at ho
      exact ho
    have HKL : Hid (k < l.length) := by show _ < _; rw [HL.out]; exact hlt
    have HOKK := Lib.hid (HOK.out k HKL.out)
    obtain ⟨bp, op, q, hA, hq, hcq⟩ := (HP.out.ext HX.out) k HKL.out
    subst hA
    have HPL : Hid (q.pl = (gPm l k).pl) := hq.pl
    have HMI : Hid (q.mi = (gPm l k).mi) := hq.mi
    have HCU := Lib.hid (fun W (h : Ext wr W) => HCT.out q (gPm l k) M W (HX.out.trans h) (hq.ext h) HOKK.out)
    clear hq
    obtain ⟨pn, pAP, pnP, pcP, pAE, pnE, pcE, ppl, pmi⟩ := q
    obtain ⟨a0, a1, a2, a3, a4⟩ := hcq
    simp only [PomA.val] at a0 a1 a2 a3 a4 HPL HMI HCU
    have hp0 : 0 ≤ ppl := by rw [HPL.out]; exact HOKK.out.p0
    have hp1 : ppl ≤ 1073741824 := by rw [HPL.out]; exact HOKK.out.p1
    have hm0 : 0 ≤ pmi := by rw [HMI.out]; exact HOKK.out.m0
    have hm1 : pmi ≤ 1073741824 := by rw [HMI.out]; exact HOKK.out.m1
    go_upto_region 12 with fail
    refine wp_at fun wq hWq => ?_
    have hNb : Blk 36 wq wr.heap.size [.string pn, .slice pAP pnP pcP, .slice pAE pnE pcE, .int .i64 ppl, .int .i64 pmi] := by rw [hWq]; exact Blk.new' rfl
    have hxq : Ext wr wq := by rw [hWq]; exact (Ext.refl _).alloc _
    have hnR : R < wr.heap.size := HBR.out.lt
    obtain ⟨nb, hnb⟩ : ∃ nb, nb = wr.heap.size := ⟨_, rfl⟩
    rw [← hnb] at hNb hnR ⊢
    have HNR := Lib.hid hnR
    have HNB := Lib.hid hNb
    have HXq := Lib.hid (HX.out.trans hxq)
    have HBRq := Lib.hid (HBR.out.ext hxq)
    have HBSq := Lib.hid (HBS.out.ext hxq)
    have HCV := Lib.hid (fun W (h : Ext wq W) => HCU.out W (hxq.trans h))
    clear hWq hnb hNb hnR hxq HX HBR HBS HCU a0 a1 a2 a3 a4
    have HVK : Hid (∀ W, Ext w W → ∃ b o, B = some ⟨b, o, none⟩ ∧ W.cell? ⟨b, o + k, none⟩ = some (.int .i64 (gI vs k))) := fun W h => (HV.out.ext h).g (k := k) (by rw [HLV.out, HVN.out]; exact hlt)
    have HJK : Hid (jdE x l M vs k = if gI vs k < 0 ∨ 35184372088832 < gI vs k then 3 else tgE x (gPm l k) M) := rfl
    have HJV : Hid (jvF x l M vs k = judV (gPm l k) (tgTo x (gPm l k) M (gPm l k).ps.length : Int) (gI vs k)) := rfl
    obtain ⟨v, hv⟩ : ∃ v, v = gI vs k := ⟨_, rfl⟩
    rw [← hv] at HVK HJK HJV
    clear hv
    have HFA : Hid (jdE x l M vs k ≠ 0 → JE = jdE x l M vs k) := fun h => by rw [HJE2.out, firstE_at hlt HALL.out h]
    obtain ⟨bv, ov, hBv, v0⟩ := HVK.out wq HXq.out
    subst hBv
    have hkv : k < nv := by have := HVN.out; omega
    by_cases q0 : v < 0
    · have HR : Hid (JE = 3) := by
        have h3 : jdE x l M vs k = 3 := by rw [HJK.out, if_pos (Or.inl q0)]
        show _ = _; rw [HFA.out (by rw [h3]; decide), h3]
      go_wp2_with fail
      go_ret2
      exact retJd_bad HR.out (by decide) HXq.out
    by_cases q1 : 35184372088832 < v
    · have HR : Hid (JE = 3) := by
        have h3 : jdE x l M vs k = 3 := by rw [HJK.out, if_pos (Or.inr q1)]
        show _ = _; rw [HFA.out (by rw [h3]; decide), h3]
      go_wp2_with fail
      go_ret2
      exact retJd_bad HR.out (by decide) HXq.out
    have HJK2 : Hid (jdE x l M vs k = tgE x (gPm l k) M) := by show _ = _; rw [HJK.out, if_neg (by omega)]
    clear HJK
    obtain ⟨bm, om, hAM, m0⟩ := HMM.out wq HXq.out
    subst hAM
    obtain ⟨ME, hME⟩ : ∃ y, y = tgE x (gPm l k) M := ⟨_, rfl⟩
    have HTT : Hid (ME = 0 → tgV x (gPm l k) M = (tgTo x (gPm l k) M (gPm l k).ps.length : Int)) := fun h => tgV_ok (by rw [← hME]; exact h)
    have HTB : Hid (tgTo x (gPm l k) M (gPm l k).ps.length ≤ 16000000000000) := by
      have h1 := tgTo_bd x (gPm l k) M (gPm l k).ps.length
      have h2 := HOKK.out.n1
      show _ ≤ _; omega
    obtain ⟨MV, hMV⟩ : ∃ y, y = tgV x (gPm l k) M := ⟨_, rfl⟩
    rw [← hME] at HJK2
    rw [← hMV] at HTT
    obtain ⟨T, hT⟩ : ∃ y, y = tgTo x (gPm l k) M (gPm l k).ps.length := ⟨_, rfl⟩
    rw [← hT] at HTT HTB HJV
    have HCW : Hid (∀ W, Ext wq W → Calls Tryz.prog 35 #[.agg #[.string nm, .slice AS nS cS, .slice (some ⟨bm, om, none⟩) nM cM, .slice AP nP cP, .slice AU nU cU, .slice AK nK cK, .slice AO nO cO], .agg #[.string pn, .slice pAP pnP pcP, .slice pAE pnE pcE, .int .i64 ppl, .int .i64 pmi], .int .i64 M] W fun e w' => e = .returned (.tuple #[.int .i64 MV, .int .i64 ME]) ∧ Ext W w') := fun W h => by
      rw [hME, hMV]; exact HCV.out W h
    clear hME hMV hT HCV
    obtain ⟨a0, a1, a2, a3, a4⟩ := blk5 HNB.out
    obtain ⟨c0, c1, c2, c3, c4, c5, c6⟩ := blk7 HBSq.out
    have z0 := fun z : After wq => After.cell c0 z
    have z1 := fun z : After wq => After.cell c1 z
    have z2 := fun z : After wq => After.cell c2 z
    have z3 := fun z : After wq => After.cell c3 z
    have z4 := fun z : After wq => After.cell c4 z
    have z5 := fun z : After wq => After.cell c5 z
    have z6 := fun z : After wq => After.cell c6 z
    have y0 := fun z : After wq => After.cell a0 z
    have y1 := fun z : After wq => After.cell a1 z
    have y2 := fun z : After wq => After.cell a2 z
    have y3 := fun z : After wq => After.cell a3 z
    have y4 := fun z : After wq => After.cell a4 z
    have x0 := fun z : After wq => After.cell m0 z
    go_wp2_with fail
    refine region_ext (by kernel_rfl) (by kernel_rfl) ?_
    repeat (first | go_big_quiet_step ((go_at_call 35; exact after_call (HCW.out _ (After.ext _)))) | (go_big_quiet_want; go_simp; go_big_quiet_on))
    refine wpQuiet_nil ?_
    rintro w4 ⟨⟨_, he4⟩, rfl⟩
    have HX4 := Lib.hid (HXq.out.trans he4)
    have HN4 := Lib.hid (HNB.out.ext he4)
    have HR4 := Lib.hid (HBRq.out.ext he4)
    have HB4 := Lib.hid (HBSq.out.ext he4)
    have v4 := he4.cell v0
    clear z0 z1 z2 z3 z4 z5 z6 y0 y1 y2 y3 y4 x0 a0 a1 a2 a3 a4 c0 c1 c2 c3 c4 c5 c6 m0 v0 he4 HCW HNB HBRq HBSq HXq
    obtain ⟨a0, a1, a2, a3, a4⟩ := blk5 HN4.out
    by_cases hz : ME = 0
    rotate_left
    · have HR : Hid (JE = ME) := by show _ = _; rw [HFA.out (by rw [HJK2.out]; exact hz), HJK2.out]
      have hzb : (ME != 0) = true := by simp [hz]
      have HZ := Lib.hid hz
      clear hz
      go_wp2_with fail
      go_ret2
      exact retJd_bad HR.out HZ.out HX4.out
    have HMT := Lib.hid (HTT.out hz)
    have HZ : Hid (jdE x l M vs k = 0) := by show _ = _; rw [HJK2.out]; exact hz
    subst hz
    obtain rfl : MV = (T : Int) := HMT.out
    have hTb := HTB.out
    clear HMT HTT HTB HJK2 HFA
    have HJ2 : Hid (jvF x l M vs k = if v - ((T : Int) - pmi) < 0 then v - ((T : Int) - pmi) else if 0 < v - ((T : Int) + ppl) then v - ((T : Int) + ppl) else 0) := by show _ = _; rw [HJV.out, HPL.out, HMI.out]; rfl
    clear HJV
    by_cases ov : 0 < v - ((T : Int) + ppl)
    · have ovb : decide (0 < v - ((T : Int) + ppl)) = true := decide_eq_true ov
      have unb : decide (v - ((T : Int) - pmi) < 0) = false := decide_eq_false (by omega)
      have HJ3 : Hid (jvF x l M vs k = v - ((T : Int) + ppl)) := by show _ = _; rw [HJ2.out, if_neg (by omega), if_pos ov]
      have r0 := HR4.out.cell k
      have r1 := HR4.out.frozen k
      rw [icells_get (by rw [HJD.out.1]; exact hlt)] at r0
      go_wp2_with fail
      go_quiet (fail)
      go_upto_region 20 with fail
      refine wp_at fun w6 hw6 => ?_
      have hxx : Ext w6 w6 := Ext.refl _
      have HX6 : Hid (Ext w w6) := by show Ext _ _; rw [hw6]; exact (HX4.out.drewN _).setCell (Nat.le_of_lt HG2.out) _
      have HN6 : Hid (Blk 36 w6 nb [.string pn, .slice pAP pnP pcP, .slice pAE pnE pcE, .int .i64 ppl, .int .i64 pmi]) := by show Blk _ _ _ _; rw [hw6]; exact (HN4.out.ext (Ext.drewN (Ext.refl _) _)).other (by have := HNR.out; simp only; omega) _
      have HR6 : Hid (Blk 3 w6 R (icells (L.set k (v - ((T : Int) + ppl))))) := by show Blk _ _ _ _; rw [hw6, ← icells_set]; exact (HR4.out.ext (Ext.drewN (Ext.refl _) _)).set k _
      have HB6 : Hid (Blk 29 w6 w.heap.size [.string nm, .slice AS nS cS, .slice (some ⟨bm, om, none⟩) nM cM, .slice AP nP cP, .slice AU nU cU, .slice AK nK cK, .slice AO nO cO]) := by show Blk _ _ _ _; rw [hw6]; exact (HB4.out.ext (Ext.drewN (Ext.refl _) _)).other (by have := HG2.out; simp only; omega) _
      clear hw6 hxx r0 r1 v4 a0 a1 a2 a3 a4
      obtain ⟨a0, a1, a2, a3, a4⟩ := blk5 HN6.out
      obtain ⟨bv', ov', hBv', v4⟩ := HVK.out w6 HX6.out
      injection hBv' with hBv'
      injection hBv' with e1 e2
      subst e1; subst e2
      go_quiet (fail)
      go_wp2_with fail
      go_roundw
      case rel => exact ⟨k + 1, _, by omega, by go_num, firstE_succ HALL.out HZ.out, jdL_set HJD.out hlt HJ3.out, HR6.out.ext (Ext.drewN (Ext.refl _) _), HB6.out.ext (Ext.drewN (Ext.refl _) _), HX6.out.drewN _⟩
      case measure => simp [intOf]; omega
    have ovb : decide (0 < v - ((T : Int) + ppl)) = false := decide_eq_false ov
    by_cases un : v - ((T : Int) - pmi) < 0
    · have unb : decide (v - ((T : Int) - pmi) < 0) = true := decide_eq_true un
      have HJ3 : Hid (jvF x l M vs k = v - ((T : Int) - pmi)) := by show _ = _; rw [HJ2.out, if_pos un]
      have r0 := HR4.out.cell k
      have r1 := HR4.out.frozen k
      rw [icells_get (by rw [HJD.out.1]; exact hlt)] at r0
      go_wp2_with fail
      go_quiet (fail)
      go_wp2_with fail
      go_quiet (fail)
      go_upto_region 23 with fail
      refine wp_at fun w6 hw6 => ?_
      have HX6 : Hid (Ext w w6) := by show Ext _ _; rw [hw6]; exact (HX4.out.drewN _).setCell (Nat.le_of_lt HG2.out) _
      have HR6 : Hid (Blk 3 w6 R (icells (L.set k (v - ((T : Int) - pmi))))) := by show Blk _ _ _ _; rw [hw6, ← icells_set]; exact (HR4.out.ext (Ext.drewN (Ext.refl _) _)).set k _
      have HB6 : Hid (Blk 29 w6 w.heap.size [.string nm, .slice AS nS cS, .slice (some ⟨bm, om, none⟩) nM cM, .slice AP nP cP, .slice AU nU cU, .slice AK nK cK, .slice AO nO cO]) := by show Blk _ _ _ _; rw [hw6]; exact (HB4.out.ext (Ext.drewN (Ext.refl _) _)).other (by have := HG2.out; simp only; omega) _
      clear hw6 r0 r1 v4 a0 a1 a2 a3 a4
      go_wp2_with fail
      go_roundw
      case rel => exact ⟨k + 1, _, by omega, by go_num, firstE_succ HALL.out HZ.out, jdL_set HJD.out hlt HJ3.out, HR6.out, HB6.out, HX6.out⟩
      case measure => simp [intOf]; omega
    · have unb : decide (v - ((T : Int) - pmi) < 0) = false := decide_eq_false un
      have HJ3 : Hid (jvF x l M vs k = 0) := by show _ = _; rw [HJ2.out, if_neg un, if_neg ov]
      go_wp2_with fail
      go_quiet (fail)
      go_wp2_with fail
      go_quiet (fail)
      go_wp2_with fail
      go_roundw
      case rel => exact ⟨k + 1, L, by omega, by go_num, firstE_succ HALL.out HZ.out, jdL_zero HJD.out hlt HJ3.out, HR4.out.ext (Ext.drewN (Ext.refl _) _), HB4.out.ext (Ext.drewN (Ext.refl _) _), HX4.out.drewN _⟩
      case measure => simp [intOf]; omega
/- Within -/
def winB (x : StyX) (l : List PomX) (z : Int) (vs : List Int) : Bool := decide (judE x l z vs = 0) && allB (fun i => decide (gI (judL x l z vs) i = 0)) l.length
theorem judL_len (x : StyX) (l : List PomX) (z : Int) (vs : List Int) : (judL x l z vs).length = l.length := by simp [judL]
theorem judE_len {x : StyX} {l : List PomX} {z : Int} {vs : List Int} (h : judE x l z vs = 0) : l.length ≤ 16 := by
  unfold judE at h
  split at h
  · rename_i h1; exact absurd h h1
  · rename_i h1; exact (spcE_zero.1 (Classical.not_not.1 h1)).2.1
set_option maxRecDepth 100000 in
set_option maxHeartbeats 3200000 in
theorem withinX_any (a : StyA) (x : StyX) (A : Option Addr) (n c : Nat) (l : List PomX) (z : Int) (B : Option Addr) (nv cv : Nat) (vs : List Int) (w : World) (hs : StyXAt w a x) (hN : x.sz.length ≤ 1000) (hZ : ∀ k, k < x.sz.length → (gB x.sz k).size ≤ 1000)
    (hP : PomsAt w A l) (hl : l.length = n) (hc : n ≤ c) (hc' : c ≤ 9223372036854775807) (hV : IntsAt w B vs) (hv : vs.length = nv) (hnv : nv ≤ 9223372036854775807) :
    Calls Tryz.prog 19 #[a.val, .slice A n c, .int .i64 z, .slice B nv cv] w fun e w' => e = .returned (.tuple #[.bool (winB x l z vs), .int .i64 (judE x l z vs)]) ∧ Ext w w' := by
  have HJ := Lib.hid (fun W (h : Ext w W) => judge_any a x A n c l z B nv cv vs W (hs.ext h) hN hZ (hP.ext h) hl hc hc' (hV.ext h) hv hnv)
  have HL := Lib.hid hl
  clear hs hN hZ hP hV hv hl
  obtain ⟨nm, AS, nS, cS, AM, nM, cM, AP, nP, cP, AU, nU, cU, AK, nK, cK, AO, nO, cO⟩ := a
  simp only [StyA.val] at HJ ⊢
  have HWB : Hid (winB x l z vs = (decide (judE x l z vs = 0) && allB (fun i => decide (gI (judL x l z vs) i = 0)) l.length)) := rfl
  have HJN := Lib.hid (@judE_len x l z vs)
  have HJL := Lib.hid (judL_len x l z vs)
  rw [HL.out] at HWB HJN HJL
  obtain ⟨JE, hJE⟩ : ∃ y, y = judE x l z vs := ⟨_, rfl⟩
  obtain ⟨JL, hJL⟩ : ∃ y, y = judL x l z vs := ⟨_, rfl⟩
  obtain ⟨WB, hWB⟩ : ∃ y, y = winB x l z vs := ⟨_, rfl⟩
  rw [← hJE, ← hJL, ← hWB] at HWB
  rw [← hJE, ← hJL] at HJ
  rw [← hJE] at HJN
  rw [← hJL] at HJL
  rw [← hJE, ← hWB]
  clear hJE hJL hWB
  go_enter Tryz.func19, Tryz.ntmps19
  go_wp2_with fail
  refine (HJ.out _ ((Ext.refl _).alloc _)).mono ?_
  rintro e w1 ⟨v1, rfl, hv1, hv1', he1⟩
  have HX1 : Hid (Ext w w1) := ((Ext.refl _).alloc _).trans he1
  clear he1 HJ
  by_cases hz : JE = 0
  rotate_left
  · have hvf := hv1' hz
    subst hvf
    have HR : Hid (WB = false) := by show _ = _; rw [HWB.out, decide_eq_false hz]; rfl
    have hzb : (JE != 0) = true := by simp [hz]
    clear hz hv1 hv1'
    go_wp2_with fail
    go_ret2
    exact ⟨by rw [HR.out]; rfl, HX1.out⟩
  have hn16 := HJN.out hz
  obtain ⟨A1, c1, hvf, hI, _⟩ := OwnI.slice' (n := n) (hv1 hz) HJL.out
  subst hvf
  have HI := Lib.hid hI
  have HW2 : Hid (WB = allB (fun i => decide (gI JL i = 0)) n) := by show _ = _; rw [HWB.out, decide_eq_true hz]; rfl
  subst hz
  clear hv1 hv1' hI HWB HJN
  go_wp2_with fail
  go_loopw [27] (fun i wr => ∃ k : Nat, k ≤ n ∧ i = .int .i64 k ∧ allB (fun i => decide (gI JL i = 0)) k = true ∧ Ext w1 wr) (fun i _ => n - (intOf i).toNat)
  case atStart => exact ⟨0, Nat.zero_le _, rfl, rfl, Ext.refl _⟩
  case round =>
    obtain ⟨k, hk, rfl, hall, hx⟩ := hrel
    have HALL := Lib.hid hall; have HX := Lib.hid hx; clear hall hx
    by_cases hlt : k < n
    rotate_left
    · obtain rfl : k = n := by omega
      have HR : Hid (WB = true) := by show _ = _; rw [HW2.out]; exact HALL.out
      go_wp2_with fail
      go_ret2
      exact ⟨by rw [HR.out]; rfl, HX1.out.trans HX.out⟩
    obtain ⟨b, o, hA1, d0⟩ := (HI.out.ext HX.out).g (k := k) (by rw [HJL.out]; exact hlt)
    subst hA1
    obtain ⟨v, hv⟩ : ∃ v, v = gI JL k := ⟨_, rfl⟩
    rw [← hv] at d0
    have HVV := Lib.hid hv; clear hv
    by_cases g0 : v = 0
    · have HT : Hid (decide (gI JL k = 0) = true) := by show _ = _; rw [← HVV.out]; exact decide_eq_true g0
      have g0b : (v != 0) = false := by simp [g0]
      clear g0
      go_wp2_with fail
      go_roundw
      case rel => exact ⟨k + 1, by omega, by go_num, allB_succ HALL.out HT.out, HX.out⟩
      case measure => simp [intOf]; omega
    · have HR : Hid (WB = false) := by show _ = _; rw [HW2.out]; exact allB_false hlt (by rw [← HVV.out]; exact decide_eq_false g0)
      have g0b : (v != 0) = true := by simp [g0]
      clear g0
      go_wp2_with fail
      go_ret2
      exact ⟨by rw [HR.out]; rfl, HX1.out.trans HX.out⟩
end Go.Proofs.YtkigmpholnfkbaaGreat
