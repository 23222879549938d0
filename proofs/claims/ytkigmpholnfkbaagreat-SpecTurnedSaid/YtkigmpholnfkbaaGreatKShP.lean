/- words: the style of chapter 52's examples, plain; its blocks. -/
import Derived.Test.YtkigmpholnfkbaaGreatKSpJ
/- spec.Judge, Within -/
namespace Go.Proofs.YtkigmpholnfkbaaGreat
open Go.RowKit
theorem make_ints (n : Nat) (hn : n ≤ 1000) (w : World) : (Instr.makeSlice 23 (.int .i64 n) (.int .i64 n)).run Tryz.prog w = .ok (.slice (some ⟨w.heap.size, 0, none⟩) n n) (w.alloc (.cells (icells (List.replicate n 0)).toArray 3)) := by
  have h := run_make (P := Tryz.prog) w 23 3 (i := ((Tryz.prog.info? 3).getD default)) (z := .int .i64 0) Tryz.underlying23 (by kernel_rfl) (by kernel_rfl) .i64 .i64 n n (by omega) (by omega) (by
    rw [show ((Tryz.prog.info? 3).getD default).bytes = 8 from by kernel_rfl]; omega) (by omega)
  rw [show ((Tryz.prog.info? 3).getD default).size = 1 from by kernel_rfl] at h
  rw [show (icells (List.replicate n 0)).toArray = madeCells #[.int .i64 0] (n * 1) from by rw [made_one]; simp [icells]]
  simpa [Value.cells] using h
/- the values so far -/
def JdL (f : Nat → Int) (n k : Nat) (L : List Int) : Prop := L.length = n ∧ (∀ i, i < k → gI L i = f i) ∧ ∀ i, k ≤ i → i < n → gI L i = 0
theorem jdL_start (f : Nat → Int) (n : Nat) : JdL f n 0 (List.replicate n 0) := ⟨by simp, fun i hi => absurd hi (Nat.not_lt_zero _), fun i _ hi => by unfold gI; simp [hi]⟩
theorem jdL_zero {f : Nat → Int} {n k : Nat} {L : List Int} (h : JdL f n k L) (hk : k < n) (h0 : f k = 0) : JdL f n (k + 1) L :=
  ⟨h.1, fun i hi => by
    rcases Nat.lt_succ_iff_lt_or_eq.1 hi with h1 | h1
    · exact h.2.1 i h1
    · subst h1; rw [h0]; exact h.2.2 i (Nat.le_refl _) hk, fun i hi hn => h.2.2 i (by omega) hn⟩
theorem jdL_set {f : Nat → Int} {n k : Nat} {L : List Int} {v : Int} (h : JdL f n k L) (hk : k < n) (h0 : f k = v) : JdL f n (k + 1) (L.set k v) :=
  ⟨by rw [List.length_set]; exact h.1, fun i hi => by
    rw [gI_set (by rw [h.1]; exact hk)]
    rcases Nat.lt_succ_iff_lt_or_eq.1 hi with h1 | h1
    · rw [if_neg (by omega)]; exact h.2.1 i h1
    · rw [if_pos h1, h1, h0], fun i hi hn => by
    rw [gI_set (by rw [h.1]; exact hk), if_neg (by omega)]; exact h.2.2 i (by omega) hn⟩
theorem jdL_end {f : Nat → Int} {n : Nat} {L : List Int} (h : JdL f n n L) : L = (List.range n).map f := by
  apply List.ext_getElem (by simp [h.1])
  intro i h1 h2
  rw [← gI_eq h1, h.2.1 i (by rw [← h.1]; exact h1)]; simp
def RetJd (w : World) (r : Int) (L : List Int) (e : Ending) (w' : World) : Prop :=
  ∃ v, e = .returned (.tuple #[v, .int .i64 r]) ∧ (r = 0 → OwnI w' w.heap.size v L) ∧ (r ≠ 0 → v = .slice none 0 0) ∧ Ext w w'
theorem retJd_bad {w w' : World} {r y : Int} {L : List Int} (h : r = y) (hy : y ≠ 0) (he : Ext w w') : RetJd w r L (.returned (.tuple #[.slice none 0 0, .int .i64 y])) w' :=
  ⟨_, by rw [h], fun h0 => absurd (h.symm.trans h0) hy, fun _ => rfl, he⟩
def jvF (x : StyX) (l : List PomX) (m : Int) (vs : List Int) (i : Nat) : Int := judV (gPm l i) (tgTo x (gPm l i) m (gPm l i).ps.length : Int) (gI vs i)
theorem jud_eq (x : StyX) (l : List PomX) (z : Int) (vs : List Int) : judE x l z vs = if spcE x l ≠ 0 then spcE x l else if vs.length ≠ l.length then 1 else if z < 0 ∨ (x.sz.length : Int) ≤ z then 3 else firstE (jdE x l (gI x.ms z.toNat) vs) l.length := rfl
theorem judL_eq (x : StyX) (l : List PomX) (z : Int) (vs : List Int) : judL x l z vs = (List.range l.length).map (jvF x l (gI x.ms z.toNat) vs) := rfl
set_option maxRecDepth 100000 in
set_option maxHeartbeats 6400000 in
theorem judge_any (a : StyA) (x : StyX) (A : Option Addr) (n c : Nat) (l : List PomX) (z : Int) (B : Option Addr) (nv cv : Nat) (vs : List Int) (w : World) (hs : StyXAt w a x) (hN : x.sz.length ≤ 1000) (hZ : ∀ k, k < x.sz.length → (gB x.sz k).size ≤ 1000)
    (hP : PomsAt w A l) (hl : l.length = n) (hc : n ≤ c) (hc' : c ≤ 9223372036854775807) (hV : IntsAt w B vs) (hv : vs.length = nv) (hnv : nv ≤ 9223372036854775807) :
    Calls Tryz.prog 17 #[a.val, .slice A n c, .int .i64 z, .slice B nv cv] w (RetJd w (judE x l z vs) (judL x l z vs)) := by
  have HS := Lib.hid hs
  have HCC := Lib.hid (fun W (h : Ext w W) => spCheck_any a x A n c l W (hs.ext h) hN hZ (hP.ext h) hl hc hc')
  have HCT := Lib.hid (fun q p m W (h : Ext w W) (hq : PomAt W q p) (hok : PomOk x p) => target_any a x q p m W (hs.ext h) hq hok.le hok.n1 hok.rf)
  clear hs hN hZ
  have HP := Lib.hid hP; clear hP
  have HL := Lib.hid hl; clear hl
  have HV := Lib.hid hV; clear hV
  have HLV := Lib.hid hv; clear hv
  obtain ⟨nm, AS, nS, cS, AM, nM, cM, AP, nP, cP, AU, nU, cU, AK, nK, cK, AO, nO, cO⟩ := a
  have HLS : Hid (x.sz.length = nS) := HS.out.lS
  have HLM : Hid (x.ms.length = nM) := HS.out.lM
  have HMS := Lib.hid HS.out.M
  have hbS : nS ≤ 9223372036854775807 := HS.out.bS
  clear HS
  simp only [StyA.val] at HMS HCC HCT ⊢
  have HS1 := Lib.hid (@spcE_zero x l)
  have HJE := Lib.hid (jud_eq x l z vs)
  have HJL := Lib.hid (judL_eq x l z vs)
  rw [HLS.out, HL.out, HLV.out] at HJE
  rw [HL.out] at HJL
  obtain ⟨JE, hJE⟩ : ∃ y, y = judE x l z vs := ⟨_, rfl⟩
  obtain ⟨JL, hJL⟩ : ∃ y, y = judL x l z vs := ⟨_, rfl⟩
  rw [← hJE] at HJE ⊢
  rw [← hJL] at HJL ⊢
  clear hJE hJL
  have hmk := fun W : World => make_ints n
  clear hmk
  go_enter Tryz.func17, Tryz.ntmps17
  go_wp2_with fail
  refine (HCC.out _ ((Ext.refl _).alloc _)).mono ?_
  rintro e w1 ⟨rfl, he1⟩
  have HB1 : Hid (Blk 29 w1 w.heap.size [.string nm, .slice AS nS cS, .slice AM nM cM, .slice AP nP cP, .slice AU nU cU, .slice AK nK cK, .slice AO nO cO]) := (Blk.new' rfl).ext he1
  have HX1 : Hid (Ext w w1) := ((Ext.refl _).alloc _).trans he1
  clear he1 HCC
  obtain ⟨SP, hSP⟩ : ∃ y, y = spcE x l := ⟨_, rfl⟩
  rw [← hSP] at HJE HS1 ⊢
  clear hSP
  by_cases hz : SP = 0
  rotate_left
  · have HR : Hid (JE = SP) := by show _ = _; rw [HJE.out, if_pos hz]
    have hzb : (SP != 0) = true := by simp [hz]
    have HZ := Lib.hid hz
    clear hz
    go_wp2_with fail
    go_ret2
    exact retJd_bad HR.out HZ.out HX1.out
  obtain ⟨hse, h16, hoks⟩ := HS1.out.1 hz
  have HML : Hid (nM = nS) := by show _ = _; rw [← HLM.out, ← HLS.out]; exact sty_ms hse
  rw [HL.out] at h16
  have HOK := Lib.hid (fun i (h : i < l.length) => (hoks i h).1)
  subst hz
  clear HS1 hse hoks
  simp only [ne_eq, not_true_eq_false, if_false] at HJE
  obtain ⟨c0, c1, c2, c3, c4, c5, c6⟩ := blk7 HB1.out
  by_cases hvn : nv = n
  rotate_left
  · have HR : Hid (JE = 1) := by show _ = _; rw [HJE.out, if_pos hvn]
    have hzb : ((nv : Int) != (n : Int)) = true := by simp; omega
    clear hvn
    go_wp2_with fail
    go_ret2
    exact retJd_bad HR.out (by decide) HX1.out
  have hvb : ((nv : Int) != (n : Int)) = false := by simp; omega
  have HJE1 : Hid (JE = if z < 0 ∨ (nS : Int) ≤ z then 3 else firstE (jdE x l (gI x.ms z.toNat) vs) n) := by show _ = _; rw [HJE.out, if_neg (fun h => h hvn)]
  have HVN := Lib.hid hvn
  clear hvn HJE
  by_cases g0 : z < 0
  · have HR : Hid (JE = 3) := by show _ = _; rw [HJE1.out, if_pos (Or.inl g0)]
    go_wp2_with fail
    go_ret2
    exact retJd_bad HR.out (by decide) HX1.out
  by_cases g1 : (nS : Int) ≤ z
  · have HR : Hid (JE = 3) := by show _ = _; rw [HJE1.out, if_pos (Or.inr g1)]
    go_wp2_with fail
    go_ret2
    exact retJd_bad HR.out (by decide) HX1.out
  have HJE2 : Hid (JE = firstE (jdE x l (gI x.ms z.toNat) vs) n) := by show _ = _; rw [HJE1.out, if_neg (by omega)]
  clear HJE1
  obtain ⟨Z, rfl⟩ := Int.eq_ofNat_of_zero_le (show 0 ≤ z by omega)
  rw [Int.toNat_natCast] at HJE2 HJL
  have zb0 : decide ((Z : Int) < 0) = false := decide_eq_false g0
  have zb1 : decide ((nS : Int) ≤ (Z : Int)) = false := decide_eq_false g1
  have zb2 : decide (nS ≤ Z) = false := decide_eq_false (by omega)
  have hZM : Z < nM := by have := HML.out; omega
  obtain ⟨M, hM⟩ : ∃ M, M = gI x.ms Z := ⟨_, rfl⟩
  rw [← hM] at HJE2 HJL
  have HMM : Hid (∀ W, Ext w W → ∃ b o, AM = some ⟨b, o, none⟩ ∧ W.cell? ⟨b, o + Z, none⟩ = some (.int .i64 M)) := fun W h => by
    rw [hM]; exact (HMS.out.ext h).g (k := Z) (by rw [HLM.out]; exact hZM)
  clear hM
  have hmk := make_ints n (by omega)
  go_upto_region 9 with fail
  refine wp_at fun w2 hw2 => ?_
  have HX2 : Hid (Ext w w2) := by show Ext _ _; rw [hw2]; exact HX1.out.alloc _
  have HB2 : Hid (Blk 29 w2 w.heap.size [.string nm, .slice AS nS cS, .slice AM nM cM, .slice AP nP cP, .slice AU nU cU, .slice AK nK cK, .slice AO nO cO]) := by show Blk _ _ _ _; rw [hw2]; exact HB1.out.ext ((Ext.refl _).alloc _)
  have HR2 : Hid (Blk 3 w2 w1.heap.size (icells (List.replicate n 0))) := by show Blk _ _ _ _; rw [hw2]; exact Blk.new' rfl
  have HG2 : Hid (w.heap.size < w1.heap.size) := HB1.out.lt
  obtain ⟨R, hR⟩ : ∃ R, R = w1.heap.size := ⟨_, rfl⟩
  rw [← hR] at HR2 HG2 ⊢
  clear hR hw2 c0 c1 c2 c3 c4 c5 c6 hmk
  go_wp2_with fail
  go_loopw [43] (fun i wr => ∃ (k : Nat) (L : List Int), k ≤ n ∧ i = .int .i64 k ∧ firstE (jdE x l M vs) k = 0 ∧ JdL (jvF x l M vs) n k L ∧ Blk 3 wr R (icells L) ∧ Blk 29 wr w.heap.size [.string nm, .slice AS nS cS, .slice AM nM cM, .slice AP nP cP, .slice AU nU cU, .slice AK nK cK, .slice AO nO cO] ∧ Ext w wr) (fun i _ => n - (intOf i).toNat)
  case atStart => exact ⟨0, _, Nat.zero_le _, rfl, rfl, jdL_start _ _, HR2.out, HB2.out, HX2.out⟩
  case round =>
    obtain ⟨k, L, hk, rfl, hall, hjl, hbr, hbs, hx⟩ := hrel
    have HALL := Lib.hid hall; have HJD := Lib.hid hjl; have HBR := Lib.hid hbr; have HBS := Lib.hid hbs; have HX := Lib.hid hx
    clear hall hjl hbr hbs hx
    by_cases hlt : k < n
    rotate_left
    · obtain rfl : k = n := by omega
      have HR : Hid (JE = 0) := by show _ = _; rw [HJE2.out]; exact HALL.out
      go_wp2_with fail
      go_ret2
      refine ⟨_, by rw [HR.out]; rfl, fun _ => ?_, fun h => absurd HR.out h, HX.out⟩
      have hL := jdL_end HJD.out
      rw [HJL.out, ← hL]
      have ho := own_of_int (base := w.heap.size) HBR.out (Nat.le_of_lt HG2.out) (by rw [HJD.out.1]; omega)
      rw [HJD.out.1] at ho
      exact ho
    have HKL : Hid (k < l.length) := by show _ < _; rw [HL.out]; exact hlt
    have HOKK := Lib.hid (HOK.out k HKL.out)
    obtain ⟨bp, op, q, hA, hq, hcq⟩ := (HP.out.ext HX.out) k HKL.out
    subst hA
    have HPL : Hid (q.pl = (gPm l k).pl) := hq.pl
    have HMI : Hid (q.mi = (gPm l k).mi) := hq.mi
    have HCU := Lib.hid (fun W (h : Ext wr W) => HCT.out q (gPm l k) M W (HX.out.trans h) (hq.ext h) HOKK.out)
    clear hq
    obtain ⟨pn, pAP, pnP, pcP, pAE, pnE, pcE, ppl, pmi⟩ := q
    obtain ⟨a0, a1, a2, a3, a4⟩ := hcq
    simp only [PomA.val] at a0 a1 a2 a3 a4 HPL HMI HCU
    have hp0 : 0 ≤ ppl := by rw [HPL.out]; exact HOKK.out.p0
    have hp1 : ppl ≤ 1073741824 := by rw [HPL.out]; exact HOKK.out.p1
    have hm0 : 0 ≤ pmi := by rw [HMI.out]; exact HOKK.out.m0
    have hm1 : pmi ≤ 1073741824 := by rw [HMI.out]; exact HOKK.out.m1
    go_upto_region 12 with fail
    refine wp_at fun wq hWq => ?_
    have hNb : Blk 36 wq wr.heap.size [.string pn, .slice pAP pnP pcP, .slice pAE pnE pcE, .int .i64 ppl, .int .i64 pmi] := by rw [hWq]; exact Blk.new' rfl
    have hxq : Ext wr wq := by rw [hWq]; exact (Ext.refl _).alloc _
    have hnR : R < wr.heap.size := HBR.out.lt
    obtain ⟨nb, hnb⟩ : ∃ nb, nb = wr.heap.size := ⟨_, rfl⟩
    rw [← hnb] at hNb hnR ⊢
    have HNR := Lib.hid hnR
    have HNB := Lib.hid hNb
    have HXq := Lib.hid (HX.out.trans hxq)
    have HBRq := Lib.hid (HBR.out.ext hxq)
    have HBSq := Lib.hid (HBS.out.ext hxq)
    have HCV := Lib.hid (fun W (h : Ext wq W) => HCU.out W (hxq.trans h))
    clear hWq hnb hNb hnR hxq HX HBR HBS HCU a0 a1 a2 a3 a4
    have HVK : Hid (∀ W, Ext w W → ∃ b o, B = some ⟨b, o, none⟩ ∧ W.cell? ⟨b, o + k, none⟩ = some (.int .i64 (gI vs k))) := fun W h => (HV.out.ext h).g (k := k) (by rw [HLV.out, HVN.out]; exact hlt)
    have HJK : Hid (jdE x l M vs k = if gI vs k < 0 ∨ 35184372088832 < gI vs k then 3 else tgE x (gPm l k) M) := rfl
    have HJV : Hid (jvF x l M vs k = judV (gPm l k) (tgTo x (gPm l k) M (gPm l k).ps.length : Int) (gI vs k)) := rfl
    obtain ⟨v, hv⟩ : ∃ v, v = gI vs k := ⟨_, rfl⟩
    rw [← hv] at HVK HJK HJV
    clear hv
    have HFA : Hid (jdE x l M vs k ≠ 0 → JE = jdE x l M vs k) := fun h => by rw [HJE2.out, firstE_at hlt HALL.out h]
    obtain ⟨bv, ov, hBv, v0⟩ := HVK.out wq HXq.out
    subst hBv
    have hkv : k < nv := by have := HVN.out; omega
    by_cases q0 : v < 0
    · have HR : Hid (JE = 3) := by
        have h3 : jdE x l M vs k = 3 := by rw [HJK.out, if_pos (Or.inl q0)]
        show _ = _; rw [HFA.out (by rw [h3]; decide), h3]
      go_wp2_with fail
      go_ret2
      exact retJd_bad HR.out (by decide) HXq.out
    by_cases q1 : 35184372088832 < v
    · have HR : Hid (JE = 3) := by
        have h3 : jdE x l M vs k = 3 := by rw [HJK.out, if_pos (Or.inr q1)]
        show _ = _; rw [HFA.out (by rw [h3]; decide), h3]
      go_wp2_with fail
      go_ret2
      exact retJd_bad HR.out (by decide) HXq.out
    have HJK2 : Hid (jdE x l M vs k = tgE x (gPm l k) M) := by show _ = _; rw [HJK.out, if_neg (by omega)]
    clear HJK
    obtain ⟨bm, om, hAM, m0⟩ := HMM.out wq HXq.out
    subst hAM
    obtain ⟨ME, hME⟩ : ∃ y, y = tgE x (gPm l k) M := ⟨_, rfl⟩
    have HTT : Hid (ME = 0 → tgV x (gPm l k) M = (tgTo x (gPm l k) M (gPm l k).ps.length : Int)) := fun h => tgV_ok (by rw [← hME]; exact h)
    have HTB : Hid (tgTo x (gPm l k) M (gPm l k).ps.length ≤ 16000000000000) := by
      have h1 := tgTo_bd x (gPm l k) M (gPm l k).ps.length
      have h2 := HOKK.out.n1
      show _ ≤ _; omega
    obtain ⟨MV, hMV⟩ : ∃ y, y = tgV x (gPm l k) M := ⟨_, rfl⟩
    rw [← hME] at HJK2
    rw [← hMV] at HTT
    obtain ⟨T, hT⟩ : ∃ y, y = tgTo x (gPm l k) M (gPm l k).ps.length := ⟨_, rfl⟩
    rw [← hT] at HTT HTB HJV
    have HCW : Hid (∀ W, Ext wq W → Calls Tryz.prog 35 #[.agg #[.string nm, .slice AS nS cS, .slice (some ⟨bm, om, none⟩) nM cM, .slice AP nP cP, .slice AU nU cU, .slice AK nK cK, .slice AO nO cO], .agg #[.string pn, .slice pAP pnP pcP, .slice pAE pnE pcE, .int .i64 ppl, .int .i64 pmi], .int .i64 M] W fun e w' => e = .returned (.tuple #[.int .i64 MV, .int .i64 ME]) ∧ Ext W w') := fun W h => by
      rw [hME, hMV]; exact HCV.out W h
    clear hME hMV hT HCV
    obtain ⟨a0, a1, a2, a3, a4⟩ := blk5 HNB.out
    obtain ⟨c0, c1, c2, c3, c4, c5, c6⟩ := blk7 HBSq.out
    have z0 := fun z : After wq => After.cell c0 z
    have z1 := fun z : After wq => After.cell c1 z
    have z2 := fun z : After wq => After.cell c2 z
    have z3 := fun z : After wq => After.cell c3 z
    have z4 := fun z : After wq => After.cell c4 z
    have z5 := fun z : After wq => After.cell c5 z
    have z6 := fun z : After wq => After.cell c6 z
    have y0 := fun z : After wq => After.cell a0 z
    have y1 := fun z : After wq => After.cell a1 z
    have y2 := fun z : After wq => After.cell a2 z
    have y3 := fun z : After wq => After.cell a3 z
    have y4 := fun z : After wq => After.cell a4 z
    have x0 := fun z : After wq => After.cell m0 z
    go_wp2_with fail
    refine region_ext (by kernel_rfl) (by kernel_rfl) ?_
    repeat (first | go_big_quiet_step ((go_at_call 35; exact after_call (HCW.out _ (After.ext _)))) | (go_big_quiet_want; go_simp; go_big_quiet_on))
    refine wpQuiet_nil ?_
    rintro w4 ⟨⟨_, he4⟩, rfl⟩
    have HX4 := Lib.hid (HXq.out.trans he4)
    have HN4 := Lib.hid (HNB.out.ext he4)
    have HR4 := Lib.hid (HBRq.out.ext he4)
    have HB4 := Lib.hid (HBSq.out.ext he4)
    have v4 := he4.cell v0
    clear z0 z1 z2 z3 z4 z5 z6 y0 y1 y2 y3 y4 x0 a0 a1 a2 a3 a4 c0 c1 c2 c3 c4 c5 c6 m0 v0 he4 HCW HNB HBRq HBSq HXq
    obtain ⟨a0, a1, a2, a3, a4⟩ := blk5 HN4.out
    by_cases hz : ME = 0
    rotate_left
    · have HR : Hid (JE = ME) := by show _ = _; rw [HFA.out (by rw [HJK2.out]; exact hz), HJK2.out]
      have hzb : (ME != 0) = true := by simp [hz]
      have HZ := Lib.hid hz
      clear hz
      go_wp2_with fail
      go_ret2
      exact retJd_bad HR.out HZ.out HX4.out
    have HMT := Lib.hid (HTT.out hz)
    have HZ : Hid (jdE x l M vs k = 0) := by show _ = _; rw [HJK2.out]; exact hz
    subst hz
    obtain rfl : MV = (T : Int) := HMT.out
    have hTb := HTB.out
    clear HMT HTT HTB HJK2 HFA
    have HJ2 : Hid (jvF x l M vs k = if v - ((T : Int) - pmi) < 0 then v - ((T : Int) - pmi) else if 0 < v - ((T : Int) + ppl) then v - ((T : Int) + ppl) else 0) := by show _ = _; rw [HJV.out, HPL.out, HMI.out]; rfl
    clear HJV
    by_cases ov : 0 < v - ((T : Int) + ppl)
    · have ovb : decide (0 < v - ((T : Int) + ppl)) = true := decide_eq_true ov
      have unb : decide (v - ((T : Int) - pmi) < 0) = false := decide_eq_false (by omega)
      have HJ3 : Hid (jvF x l M vs k = v - ((T : Int) + ppl)) := by show _ = _; rw [HJ2.out, if_neg (by omega), if_pos ov]
      have r0 := HR4.out.cell k
      have r1 := HR4.out.frozen k
      rw [icells_get (by rw [HJD.out.1]; exact hlt)] at r0
      go_wp2_with fail
      go_quiet (fail)
      go_upto_region 20 with fail
      refine wp_at fun w6 hw6 => ?_
      have hxx : Ext w6 w6 := Ext.refl _
      have HX6 : Hid (Ext w w6) := by show Ext _ _; rw [hw6]; exact (HX4.out.drewN _).setCell (Nat.le_of_lt HG2.out) _
      have HN6 : Hid (Blk 36 w6 nb [.string pn, .slice pAP pnP pcP, .slice pAE pnE pcE, .int .i64 ppl, .int .i64 pmi]) := by show Blk _ _ _ _; rw [hw6]; exact (HN4.out.ext (Ext.drewN (Ext.refl _) _)).other (by have := HNR.out; simp only; omega) _
      have HR6 : Hid (Blk 3 w6 R (icells (L.set k (v - ((T : Int) + ppl))))) := by show Blk _ _ _ _; rw [hw6, ← icells_set]; exact (HR4.out.ext (Ext.drewN (Ext.refl _) _)).set k _
      have HB6 : Hid (Blk 29 w6 w.heap.size [.string nm, .slice AS nS cS, .slice (some ⟨bm, om, none⟩) nM cM, .slice AP nP cP, .slice AU nU cU, .slice AK nK cK, .slice AO nO cO]) := by show Blk _ _ _ _; rw [hw6]; exact (HB4.out.ext (Ext.drewN (Ext.refl _) _)).other (by have := HG2.out; simp only; omega) _
      clear hw6 hxx r0 r1 v4 a0 a1 a2 a3 a4
      obtain ⟨a0, a1, a2, a3, a4⟩ := blk5 HN6.out
      obtain ⟨bv', ov', hBv', v4⟩ := HVK.out w6 HX6.out
      injection hBv' with hBv'
      injection hBv' with e1 e2
      subst e1; subst e2
      go_quiet (fail)
      go_wp2_with fail
      go_roundw
      case rel => exact ⟨k + 1, _, by omega, by go_num, firstE_succ HALL.out HZ.out, jdL_set HJD.out hlt HJ3.out, HR6.out.ext (Ext.drewN (Ext.refl _) _), HB6.out.ext (Ext.drewN (Ext.refl _) _), HX6.out.drewN _⟩
      case measure => simp [intOf]; omega
    have ovb : decide (0 < v - ((T : Int) + ppl)) = false := decide_eq_false ov
    by_cases un : v - ((T : Int) - pmi) < 0
    · have unb : decide (v - ((T : Int) - pmi) < 0) = true := decide_eq_true un
      have HJ3 : Hid (jvF x l M vs k = v - ((T : Int) - pmi)) := by show _ = _; rw [HJ2.out, if_pos un]
      have r0 := HR4.out.cell k
      have r1 := HR4.out.frozen k
      rw [icells_get (by rw [HJD.out.1]; exact hlt)] at r0
      go_wp2_with fail
      go_quiet (fail)
      go_wp2_with fail
      go_quiet (fail)
      go_upto_region 23 with fail
      refine wp_at fun w6 hw6 => ?_
      have HX6 : Hid (Ext w w6) := by show Ext _ _; rw [hw6]; exact (HX4.out.drewN _).setCell (Nat.le_of_lt HG2.out) _
      have HR6 : Hid (Blk 3 w6 R (icells (L.set k (v - ((T : Int) - pmi))))) := by show Blk _ _ _ _; rw [hw6, ← icells_set]; exact (HR4.out.ext (Ext.drewN (Ext.refl _) _)).set k _
      have HB6 : Hid (Blk 29 w6 w.heap.size [.string nm, .slice AS nS cS, .slice (some ⟨bm, om, none⟩) nM cM, .slice AP nP cP, .slice AU nU cU, .slice AK nK cK, .slice AO nO cO]) := by show Blk _ _ _ _; rw [hw6]; exact (HB4.out.ext (Ext.drewN (Ext.refl _) _)).other (by have := HG2.out; simp only; omega) _
      clear hw6 r0 r1 v4 a0 a1 a2 a3 a4
      go_wp2_with fail
      go_roundw
      case rel => exact ⟨k + 1, _, by omega, by go_num, firstE_succ HALL.out HZ.out, jdL_set HJD.out hlt HJ3.out, HR6.out, HB6.out, HX6.out⟩
      case measure => simp [intOf]; omega
    · have unb : decide (v - ((T : Int) - pmi) < 0) = false := decide_eq_false un
      have HJ3 : Hid (jvF x l M vs k = 0) := by show _ = _; rw [HJ2.out, if_neg un, if_neg ov]
      go_wp2_with fail
      go_quiet (fail)
      go_wp2_with fail
      go_quiet (fail)
      go_wp2_with fail
      go_roundw
      case rel => exact ⟨k + 1, L, by omega, by go_num, firstE_succ HALL.out HZ.out, jdL_zero HJD.out hlt HJ3.out, HR4.out.ext (Ext.drewN (Ext.refl _) _), HB4.out.ext (Ext.drewN (Ext.refl _) _), HX4.out.drewN _⟩
      case measure => simp [intOf]; omega
/- Within -/
def winB (x : StyX) (l : List PomX) (z : Int) (vs : List Int) : Bool := decide (judE x l z vs = 0) && allB (fun i => decide (gI (judL x l z vs) i = 0)) l.length
theorem judL_len (x : StyX) (l : List PomX) (z : Int) (vs : List Int) : (judL x l z vs).length = l.length := by simp [judL]
theorem judE_len {x : StyX} {l : List PomX} {z : Int} {vs : List Int} (h : judE x l z vs = 0) : l.length ≤ 16 := by
  unfold judE at h
  split at h
  · rename_i h1; exact absurd h h1
  · rename_i h1; exact (spcE_zero.1 (Classical.not_not.1 h1)).2.1
set_option maxRecDepth 100000 in
set_option maxHeartbeats 3200000 in
theorem withinX_any (a : StyA) (x : StyX) (A : Option Addr) (n c : Nat) (l : List PomX) (z : Int) (B : Option Addr) (nv cv : Nat) (vs : List Int) (w : World) (hs : StyXAt w a x) (hN : x.sz.length ≤ 1000) (hZ : ∀ k, k < x.sz.length → (gB x.sz k).size ≤ 1000)
    (hP : PomsAt w A l) (hl : l.length = n) (hc : n ≤ c) (hc' : c ≤ 9223372036854775807) (hV : IntsAt w B vs) (hv : vs.length = nv) (hnv : nv ≤ 9223372036854775807) :
    Calls Tryz.prog 19 #[a.val, .slice A n c, .int .i64 z, .slice B nv cv] w fun e w' => e = .returned (.tuple #[.bool (winB x l z vs), .int .i64 (judE x l z vs)]) ∧ Ext w w' := by
  have HJ := Lib.hid (fun W (h : Ext w W) => judge_any a x A n c l z B nv cv vs W (hs.ext h) hN hZ (hP.ext h) hl hc hc' (hV.ext h) hv hnv)
  have HL := Lib.hid hl
  clear hs hN hZ hP hV hv hl
  obtain ⟨nm, AS, nS, cS, AM, nM, cM, AP, nP, cP, AU, nU, cU, AK, nK, cK, AO, nO, cO⟩ := a
  simp only [StyA.val] at HJ ⊢
  have HWB : Hid (winB x l z vs = (decide (judE x l z vs = 0) && allB (fun i => decide (gI (judL x l z vs) i = 0)) l.length)) := rfl
  have HJN := Lib.hid (@judE_len x l z vs)
  have HJL := Lib.hid (judL_len x l z vs)
  rw [HL.out] at HWB HJN HJL
  obtain ⟨JE, hJE⟩ : ∃ y, y = judE x l z vs := ⟨_, rfl⟩
  obtain ⟨JL, hJL⟩ : ∃ y, y = judL x l z vs := ⟨_, rfl⟩
  obtain ⟨WB, hWB⟩ : ∃ y, y = winB x l z vs := ⟨_, rfl⟩
  rw [← hJE, ← hJL, ← hWB] at HWB
  rw [← hJE, ← hJL] at HJ
  rw [← hJE] at HJN
  rw [← hJL] at HJL
  rw [← hJE, ← hWB]
  clear hJE hJL hWB
  go_enter Tryz.func19, Tryz.ntmps19
  go_wp2_with fail
  refine (HJ.out _ ((Ext.refl _).alloc _)).mono ?_
  rintro e w1 ⟨v1, rfl, hv1, hv1', he1⟩
  have HX1 : Hid (Ext w w1) := ((Ext.refl _).alloc _).trans he1
  clear he1 HJ
  by_cases hz : JE = 0
  rotate_left
  · have hvf := hv1' hz
    subst hvf
    have HR : Hid (WB = false) := by show _ = _; rw [HWB.out, decide_eq_false hz]; rfl
    have hzb : (JE != 0) = true := by simp [hz]
    clear hz hv1 hv1'
    go_wp2_with fail
    go_ret2
    exact ⟨by rw [HR.out]; rfl, HX1.out⟩
  have hn16 := HJN.out hz
  obtain ⟨A1, c1, hvf, hI, _⟩ := OwnI.slice' (n := n) (hv1 hz) HJL.out
  subst hvf
  have HI := Lib.hid hI
  have HW2 : Hid (WB = allB (fun i => decide (gI JL i = 0)) n) := by show _ = _; rw [HWB.out, decide_eq_true hz]; rfl
  subst hz
  clear hv1 hv1' hI HWB HJN
  go_wp2_with fail
  go_loopw [27] (fun i wr => ∃ k : Nat, k ≤ n ∧ i = .int .i64 k ∧ allB (fun i => decide (gI JL i = 0)) k = true ∧ Ext w1 wr) (fun i _ => n - (intOf i).toNat)
  case atStart => exact ⟨0, Nat.zero_le _, rfl, rfl, Ext.refl _⟩
  case round =>
    obtain ⟨k, hk, rfl, hall, hx⟩ := hrel
    have HALL := Lib.hid hall; have HX := Lib.hid hx; clear hall hx
    by_cases hlt : k < n
    rotate_left
    · obtain rfl : k = n := by omega
      have HR : Hid (WB = true) := by show _ = _; rw [HW2.out]; exact HALL.out
      go_wp2_with fail
      go_ret2
      exact ⟨by rw [HR.out]; rfl, HX1.out.trans HX.out⟩
    obtain ⟨b, o, hA1, d0⟩ := (HI.out.ext HX.out).g (k := k) (by rw [HJL.out]; exact hlt)
    subst hA1
    obtain ⟨v, hv⟩ : ∃ v, v = gI JL k := ⟨_, rfl⟩
    rw [← hv] at d0
    have HVV := Lib.hid hv; clear hv
    by_cases g0 : v = 0
    · have HT : Hid (decide (gI JL k = 0) = true) := by show _ = _; rw [← HVV.out]; exact decide_eq_true g0
      have g0b : (v != 0) = false := by simp [g0]
      clear g0
      go_wp2_with fail
      go_roundw
      case rel => exact ⟨k + 1, by omega, by go_num, allB_succ HALL.out HT.out, HX.out⟩
      case measure => simp [intOf]; omega
    · have HR : Hid (WB = false) := by show _ = _; rw [HW2.out]; exact allB_false hlt (by rw [← HVV.out]; exact decide_eq_false g0)
      have g0b : (v != 0) = true := by simp [g0]
      clear g0
      go_wp2_with fail
      go_ret2
      exact ⟨by rw [HR.out]; rfl, HX1.out.trans HX.out⟩
end Go.Proofs.YtkigmpholnfkbaaGreat
namespace Go.Proofs.YtkigmpholnfkbaaGreat
open Go.RowKit
def lowN : ByteArray := ⟨#[108, 111, 119]⟩
def rightN : ByteArray := ⟨#[114, 105, 103, 104, 116]⟩
def highN : ByteArray := ⟨#[104, 105, 103, 104]⟩
def leftN : ByteArray := ⟨#[108, 101, 102, 116]⟩
def frontN : ByteArray := ⟨#[102, 114, 111, 110, 116]⟩
def shirtN : ByteArray := ⟨#[115, 104, 105, 114, 116]⟩
def shC : List Spot := [(0, 0), (2, 0), (2, 0), (0, 0)]
def shI : List Int := [0, 0, 0, 0]
def shP : Pc := ⟨[(lowN, [(0, 0), (10, 0)]), (rightN, [(10, 0), (10, 10)]), (highN, [(10, 10), (0, 10)]), (leftN, [(0, 10), (0, 0)])], shC, shI, []⟩
def shX : StyX := ⟨shirtN, [⟨#[83]⟩, ⟨#[77]⟩], [0, 1], [⟨frontN, 1, shP⟩], [], [], 0⟩
def gthN : ByteArray := ⟨#[103, 105, 114, 116, 104]⟩
def gthP : PomX := ⟨gthN, [0, 0], [0, 1], 500, 300⟩
def gthL : List PomX := [gthP, ⟨⟨#[98]⟩, [0, 0], [0, 1], 500, 300⟩, ⟨⟨#[99]⟩, [0, 0], [0, 1], 500, 300⟩, ⟨⟨#[100]⟩, [0, 0], [0, 1], 500, 300⟩]
def badP : PomX := ⟨gthN, [0], [4], 0, 0⟩
def oneAP : PomX := ⟨⟨#[97]⟩, [], [], 0, 0⟩
theorem sh_t0 : targE shX gthP 0 = 0 := by decide +kernel
theorem sh_v0 : targV shX gthP 0 = 20000 := by decide +kernel
theorem sh_t1 : targE shX gthP 1 = 0 := by decide +kernel
theorem sh_v1 : targV shX gthP 1 = 22000 := by decide +kernel
theorem sh_j0 : judE shX gthL 1 [22500, 21700, 22501, 21000] = 0 := by decide +kernel
theorem sh_l0 : judL shX gthL 1 [22500, 21700, 22501, 21000] = [0, 0, 1, -700] := by decide +kernel
theorem sh_j1 : judE shX gthL 1 [22000, 22000, 22000, 22000] = 0 := by decide +kernel
theorem sh_w1 : winB shX gthL 1 [22000, 22000, 22000, 22000] = true := by decide +kernel
theorem sh_j2 : judE shX gthL 1 [22000, 22000, 22000, 21699] = 0 := by decide +kernel
theorem sh_w2 : winB shX gthL 1 [22000, 22000, 22000, 21699] = false := by decide +kernel
theorem sh_j3 : judE shX gthL 1 [] = 1 := by decide +kernel
theorem sh_c0 : spcE shX [badP] = 3 := by decide +kernel
theorem sh_c1 : spcE shX [oneAP] = 1 := by decide +kernel
theorem sh_c2 : spcE shX gthL = 0 := by decide +kernel
theorem sh_sz : shX.sz.length ≤ 1000 := by decide
theorem sh_zz : ∀ k, k < shX.sz.length → (gB shX.sz k).size ≤ 1000 := by
  intro k hk
  match k, hk with
  | 0, _ => decide
  | 1, _ => decide
/- the blocks of the piece -/
structure ShB (W : World) (gE g1 g2 g3 g4 gC gI : Nat) : Prop where
  e : Blk 57 W gE [.string lowN, .slice (some ⟨g1, 0, none⟩) 2 2, .string rightN, .slice (some ⟨g2, 0, none⟩) 2 2, .string highN, .slice (some ⟨g3, 0, none⟩) 2 2, .string leftN, .slice (some ⟨g4, 0, none⟩) 2 2]
  l1 : Blk 62 W g1 (scells [(0, 0), (10, 0)])
  l2 : Blk 62 W g2 (scells [(10, 0), (10, 10)])
  l3 : Blk 62 W g3 (scells [(10, 10), (0, 10)])
  l4 : Blk 62 W g4 (scells [(0, 10), (0, 0)])
  c : Blk 62 W gC (scells shC)
  i : Blk 3 W gI (icells shI)
theorem ShB.ext {W W' : World} {gE g1 g2 g3 g4 gC gI : Nat} (h : ShB W gE g1 g2 g3 g4 gC gI) (he : Ext W W') : ShB W' gE g1 g2 g3 g4 gC gI := ⟨h.e.ext he, h.l1.ext he, h.l2.ext he, h.l3.ext he, h.l4.ext he, h.c.ext he, h.i.ext he⟩
theorem ShB.kept {K : Nat → Prop} {W W' : World} {gE g1 g2 g3 g4 gC gI : Nat} (ty : TypeId) (h : ShB W gE g1 g2 g3 g4 gC gI) (he : Kept K W W') (t1 : 57 ≠ ty) (t2 : 62 ≠ ty) (t3 : 3 ≠ ty) (hk : ∀ g, K g → ∃ cs, Blk ty W g cs) : ShB W' gE g1 g2 g3 g4 gC gI := by
  have n : ∀ {t : TypeId} {g : Nat} {cs : List Value}, Blk t W g cs → t ≠ ty → ¬ K g := fun {t g cs} hb ht hK => by
    obtain ⟨cs', hb'⟩ := hk g hK
    exact hb.ne hb' ht rfl
  exact ⟨he.blk h.e (n h.e t1), he.blk h.l1 (n h.l1 t2), he.blk h.l2 (n h.l2 t2), he.blk h.l3 (n h.l3 t2), he.blk h.l4 (n h.l4 t2), he.blk h.c (n h.c t2), he.blk h.i (n h.i t3)⟩
theorem spots_blk {t : TypeId} {W : World} {g : Nat} {l : List Spot} (h : Blk t W g (scells l)) : SpotsAt W (some ⟨g, 0, none⟩) l := SpotsAt.of_cells fun j u hu => by rw [Nat.zero_add, h.cell]; exact hu
def shA (gE gC gI : Nat) : PcA := ⟨frontN, some ⟨gE, 0, none⟩, 4, 4, 1, none, 0, 0, some ⟨gC, 0, none⟩, 4, 4, some ⟨gI, 0, none⟩, 4, 4, false⟩
theorem ShB.at {W : World} {gE g1 g2 g3 g4 gC gI : Nat} (h : ShB W gE g1 g2 g3 g4 gC gI) : PcAt W (shA gE gC gI) shP := by
  refine ⟨fun k hk => ?_, rfl, Nat.le_refl _, Nat.le_of_ble_eq_true rfl, spots_blk h.c, rfl, Nat.le_of_ble_eq_true rfl, (OwnI.plain (own_of_int (base := 0) (L := shI) h.i (Nat.zero_le _) (by decide))).2.1, rfl, SpotsAt.nil, rfl, Nat.le_of_ble_eq_true rfl, Nat.le_of_ble_eq_true rfl⟩
  match k, hk with
  | 0, _ => exact ⟨gE, 0, some ⟨g1, 0, none⟩, 2, rfl, h.e.cell 0, h.e.cell 1, spots_blk h.l1, Nat.le_refl _, Nat.le_of_ble_eq_true rfl⟩
  | 1, _ => exact ⟨gE, 0, some ⟨g2, 0, none⟩, 2, rfl, h.e.cell 2, h.e.cell 3, spots_blk h.l2, Nat.le_refl _, Nat.le_of_ble_eq_true rfl⟩
  | 2, _ => exact ⟨gE, 0, some ⟨g3, 0, none⟩, 2, rfl, h.e.cell 4, h.e.cell 5, spots_blk h.l3, Nat.le_refl _, Nat.le_of_ble_eq_true rfl⟩
  | 3, _ => exact ⟨gE, 0, some ⟨g4, 0, none⟩, 2, rfl, h.e.cell 6, h.e.cell 7, spots_blk h.l4, Nat.le_refl _, Nat.le_of_ble_eq_true rfl⟩
theorem sh_sty {W : World} {gE g1 g2 g3 g4 gC gI bS bM bP : Nat} (h : ShB W gE g1 g2 g3 g4 gC gI) (hS : Blk 9 W bS [.string ⟨#[83]⟩, .string ⟨#[77]⟩]) (hM : Blk 3 W bM (icells [0, 1])) (hP : Blk 52 W bP (shA gE gC gI).cells) :
    StyXAt W ⟨shirtN, some ⟨bS, 0, none⟩, 2, 2, some ⟨bM, 0, none⟩, 2, 2, some ⟨bP, 0, none⟩, 1, 1, none, 0, 0, none, 0, 0, none, 0, 0⟩ shX := by
  refine ⟨rfl, fun k hk => ?_, (OwnI.plain (own_of_int (base := 0) (L := [0, 1]) hM (Nat.zero_le _) (by decide))).2.1, fun k hk => ?_, fun _ hk => absurd hk (Nat.not_lt_zero _), SeamsAt.nil, rfl, rfl, rfl, rfl, rfl, rfl, Nat.le_of_ble_eq_true rfl, Nat.le_of_ble_eq_true rfl, Nat.le_of_ble_eq_true rfl, Nat.le_of_ble_eq_true rfl, Nat.le_of_ble_eq_true rfl, Nat.le_of_ble_eq_true rfl, Nat.le_refl _, Nat.le_refl _⟩
  · match k, hk with
    | 0, _ => exact ⟨bS, 0, rfl, hS.cell 0⟩
    | 1, _ => exact ⟨bS, 0, rfl, hS.cell 1⟩
  · match k, hk with
    | 0, _ => exact ⟨bP, 0, shA gE gC gI, rfl, h.at, ⟨hP.cell 0, hP.cell 1, hP.cell 2, hP.cell 3, hP.cell 4, hP.cell 5, hP.cell 6⟩, rfl, rfl⟩
end Go.Proofs.YtkigmpholnfkbaaGreat
