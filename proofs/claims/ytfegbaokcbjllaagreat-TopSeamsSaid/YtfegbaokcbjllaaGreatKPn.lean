/- garmenttop.partners. Written by genpn.py. -/
import Derived.Laws.BytesArg
import Derived.Test.YtfegbaokcbjllaaGreatKNear
import Derived.Test.YtfegbaokcbjllaaGreatKRefGs
import Derived.Test.YtfegbaokcbjllaaGreatKSlotD
import Derived.Test.YtfegbaokcbjllaaGreatKPut7
import Derived.Test.YtfegbaokcbjllaaGreatKPnW
namespace Go.Proofs.YtfegbaokcbjllaaGreat
open Go.RowKit
def RetPr (w : World) (x : JX) (e : Ending) (w' : World) : Prop := ∃ a, e = .returned (StyA.val a) ∧ StyXAt w' a x.s ∧ Ext w w'
def IsRow1 (t : TypeId) (cs : List Value) : Value → World → Prop := fun v w => ∃ g, v = .slice (some ⟨g, 0, none⟩) 1 1 ∧ Blk t w g cs
theorem IsRow1.kp (t : TypeId) (cs : List Value) : Kp (IsRow1 t cs) := fun v w w' he h => by obtain ⟨g, h1, h2⟩ := h; exact ⟨g, h1, h2.ext he⟩
theorem Kept.grownB {K : Nat → Prop} {W a b : World} {row : Option Nat} (h : Kept K W a) (hg : a.grownBy b row) (hr : ∀ k, row = some k → W.heap.size ≤ k) : Kept K W b :=
 ⟨hg.os.trans h.os, hg.tape.trans h.tape, hg.output.trans h.output, Nat.le_trans h.size hg.size, fun i hi hn => (hg.block i (Nat.lt_of_lt_of_le hi h.size) (fun e => by have := hr i e.symm; omega)).trans (h.block i hi hn)⟩
theorem blk_news {t : TypeId} {w : World} {g : Nat} {cs : List Value} (h : Blk t w g cs) : ∀ j u, cs[j]? = some u → w.cell? ((⟨g, 0, none⟩ : Addr).add j) = some u := fun j u hj => by
 rw [addr_add, Nat.zero_add, h.cell j]; exact hj
theorem turned2 {w : World} {base : Nat} {v : Value} {a b : ByteArray} {l0 l1 : List Spot} (h : OwnEs w base v [(a, l0), (b, l1)]) (h0 : 0 < l0.length) (h1 : 0 < l1.length) :
  ∃ gE cE RE g0 c0 R0 g1 c1 R1, v = .slice (some ⟨gE, 0, none⟩) 2 cE ∧ Blk 59 w gE ([.string a, .slice (some ⟨g0, 0, none⟩) l0.length c0, .string b, .slice (some ⟨g1, 0, none⟩) l1.length c1] ++ RE) ∧ Blk 49 w g0 (scells l0 ++ R0) ∧ Blk 49 w g1 (scells l1 ++ R1) ∧
   base ≤ gE ∧ base ≤ g0 ∧ g0 < g1 ∧ (2 ≤ cE ∧ cE ≤ 9223372036854775807) ∧ (l0.length ≤ c0 ∧ c0 ≤ 9223372036854775807) ∧ (l1.length ≤ c1 ∧ c1 ≤ 9223372036854775807) := by
 obtain ⟨ps, ⟨hl, hp⟩, ho, hs⟩ := h
 match ps, hl with
 |[p0, p1], _ =>
 obtain ⟨e0, o0⟩ := hp 0 (by simp)
 obtain ⟨e1, o1⟩ := hp 1 (by simp)
 have hs' := hs 0 1 (by omega) (by simp)
 simp only [gP, gE, List.getD_cons_zero, List.getD_cons_succ] at e0 e1 o0 o1 hs'
 obtain ⟨A0, c0, hv0⟩ := OwnT.form2 (t := 49) o0
 obtain ⟨A1, c1, hv1⟩ := OwnT.form2 (t := 49) o1
 obtain ⟨n0, u0⟩ := p0
 obtain ⟨n1, u1⟩ := p1
 simp only at hv0 hv1 e0 e1 o0 o1 hs'
 subst hv0 hv1 e0 e1
 obtain ⟨g0, R0, rfl, _, hb0, hB0, hc0, hc0', _⟩ := own_blk o0 h0
 obtain ⟨g1, R1, rfl, _, hb1, hB1, hc1, hc1', _⟩ := own_blk o1 h1
 rcases ho.2 with ⟨_, h⟩ | ⟨g, cap, cur, rfl, hb, hh, hn, hm, hsz, ht⟩
 ·simp at h
 refine ⟨g, cap, cur.toList.drop 4, g0, c0, R0, g1, c1, R1, rfl, ?_, hB0, hB1, hb, hb0, hs' g0 g1 rfl rfl, ⟨hn, hm⟩, ⟨hc0, hc0'⟩, ⟨hc1, hc1'⟩⟩
 unfold Blk
 have e : [.string n0, .slice (some ⟨g0, 0, none⟩) l0.length c0, .string n1, .slice (some ⟨g1, 0, none⟩) l1.length c1] ++ cur.toList.drop 4 = cur.toList := by
  have h4 : cur.toList.take 4 = [.string n0, .slice (some ⟨g0, 0, none⟩) l0.length c0, .string n1, .slice (some ⟨g1, 0, none⟩) l1.length c1] := by simpa [ecells] using ht
  rw [← h4, List.take_append_drop]
 rw [e]; exact hh
theorem turnE2 (q : Int) (a b : ByteArray) (l0 l1 : List Spot) : turnE false q [(a, l0), (b, l1)] = [(a, l0.map (applyT false q)), (b, l1.map (applyT false q))] := rfl
theorem rapply_is (f : Bool) (q : Int) (s : Spot) (w : World) : Calls Tryz.prog 37 #[TV f q, SV s] w (Ret (Fx (SV (applyT f q s))) w) := (rapply_any f q s w).mono fun _ _ h => ⟨_, h.1, rfl, h.2⟩
theorem str_info : (Tryz.prog.info? 9).map (fun i => (i.zero, i.size, i.bytes)) = some (some (.string ⟨#[]⟩), 1, 16) := by kernel_rfl
theorem int_info' : (Tryz.prog.info? 3).map (fun i => (i.zero, i.size, i.bytes)) = some (some (.int .i64 0), 1, 8) := by kernel_rfl
theorem size_cat (k : Nat) (h : k < 5) : (⟨#[83]⟩ ++ ⟨#[UInt8.ofNat (48 + k)]⟩ : ByteArray) = sizeN k := by
 match k, h with
 |0, _ => rfl
 |1, _ => rfl
 |2, _ => rfl
 |3, _ => rfl
 |4, _ => rfl
def IsRow3 (t : TypeId) (cs : List Value) : Value → World → Prop := fun v w => ∃ g, v = .slice (some ⟨g, 0, none⟩) 3 3 ∧ Blk t w g cs
theorem IsRow3.kp (t : TypeId) (cs : List Value) : Kp (IsRow3 t cs) := fun v w w' he h => by obtain ⟨g, h1, h2⟩ := h; exact ⟨g, h1, h2.ext he⟩
set_option maxRecDepth 100000 in
set_option maxHeartbeats 6400000 in
theorem partners_any (a : JA) (x : JX) (w : World) (ha : JAt w a x) (hno : NearOk x) : Calls Tryz.prog 14 #[a.val x] w (RetPr w x) := by
 have HA := Lib.hid ha; have HNO := Lib.hid hno; clear ha hno
 obtain ⟨X, hX⟩ : ∃ X, X = x := ⟨_, rfl⟩
 rw [← hX]
 have HXX := Lib.hid hX
 clear hX
 obtain ⟨AL, nL, cL, AM, nM, cM, AN, nN, cN⟩ := a
 obtain ⟨L, ⟨sx, sy⟩, ⟨ex, ey⟩, f, q, ⟨mx, my⟩, ⟨px, py⟩, ms, ns⟩ := x
 have HLL : Hid (L.length = nL) := HA.out.ll
 have HLM : Hid (ms.length = nM) := HA.out.lm
 have HLN : Hid (ns.length = nN) := HA.out.ln
 have HSL : Hid (SpotsAt w AL L) := HA.out.l
 have HSM : Hid (IntsAt w AM ms) := HA.out.m
 have HSN : Hid (IntsAt w AN ns) := HA.out.n
 have h2 : 2 ≤ nL := by have h : 2 ≤ L.length := HNO.out.l2; rw [HLL.out] at h; exact h
 have h6 : nL ≤ 6 := by have h : L.length ≤ 6 := HNO.out.l6; rw [HLL.out] at h; exact h
 have h5 : nM ≤ 5 := by have h : ms.length ≤ 5 := HNO.out.m5; rw [HLM.out] at h; exact h
 have h4 : nN ≤ 4 := by have h : ns.length ≤ 4 := HNO.out.n4; rw [HLN.out] at h; exact h
 rw [HXX.out]
 clear HA HNO
 simp only [JA.val]
 obtain ⟨b0, off, rfl, l0, l1⟩ := HSL.out.g (k := 0) (by rw [HLL.out]; omega)
 clear l0 l1
 obtain ⟨i0, hi0, hz0, hz1, hz2⟩ := info_parts spot_info
 have HI0 := Lib.hid hi0
 go_enter Tryz.func14, Tryz.ntmps14
 go_upto_region 1 with fail
 refine wp_at fun W0 hW0 => ?_
 have HJ0 : Hid (Blk 51 W0 w.heap.size [.slice (some ⟨b0, off, none⟩) nL cL, .int .i64 sx, .int .i64 sy, .int .i64 ex, .int .i64 ey, .bool f, .int .i64 q, .int .i64 mx, .int .i64 my, .int .i64 px, .int .i64 py, .slice AM nM cM, .slice AN nN cN]) := by show Blk _ _ _ _; rw [hW0]; exact (Blk.new' rfl).ext ((Ext.refl _).alloc _)
 have HR0 : Hid (Blk 29 W0 (w.heap.size + 1) [.string ⟨#[]⟩, .slice none 0 0, .slice none 0 0, .slice none 0 0, .slice none 0 0, .slice none 0 0, .slice none 0 0]) := by show Blk _ _ _ _; rw [hW0]; exact Blk.new' (by simp)
 have HX0 : Hid (Ext w W0) := by show Ext _ _; rw [hW0]; exact ((Ext.refl _).alloc _).alloc _
 clear hW0
 have hgj : w.heap.size < W0.heap.size := HJ0.out.lt
 have hgr : w.heap.size + 1 < W0.heap.size := HR0.out.lt
 obtain ⟨j0, j1, j2, j3, j4, j5, j6, j7, j8, j9, j10, j11, j12⟩ := blk13 HJ0.out
 have HS0 := Lib.hid (HSL.out.ext HX0.out)
 have HQ2 : Hid (∀ j u, (scells L)[j]? = some u → (W0.alloc (.cells #[] 49)).cell? ((⟨b0, off, none⟩ : Addr).add j) = some u) := fun j u hu => ((Ext.refl _).alloc _).cell (HS0.out.cells j u hu)
 have HQ4 : Hid (0 + nL ≤ maxLen) := by show _ ≤ _; unfold maxLen; omega
 have HQ1 : Hid ((scells L).length = nL * 2) := by show _ = _; rw [scells_length, HLL.out]
 go_wp2_with (at_builtin; refine wpList_append_own _ rfl _ _ 38 rfl W0.heap.size 49 i0 (.agg #[.int .i64 0, .int .i64 0]) 2 16 Tryz.underlying38 HI0.out hz0 hz1 hz2 rfl (by decide) _ _ _ rfl (World.ownsRow_made W0 #[] 0 (Nat.le_refl _) (Nat.zero_le _) rfl) ⟨b0, off, none⟩ nL cL (scells L) rfl HQ1.out HQ2.out (scells_one' L) HQ4.out ?qc5 ?qc6 ?_)
 case qc5 => omega
 case qc6 => simp
 intro v1 W1 hown hgrow hnil
 have hx1 : Ext W0 W1 := ((Ext.refl W0).alloc _).grown hgrow (by intro k hk; simp [Value.ownBlock] at hk; omega)
 have ho1 : OwnS W1 W0.heap.size v1 L := by
  show W1.ownsRow _ _ _ _ L.length _
  rw [HLL.out]; simpa using hown
 have HX1 := Lib.hid (HX0.out.trans hx1)
 have HJ1 := Lib.hid (HJ0.out.ext hx1); have HR1 := Lib.hid (HR0.out.ext hx1)
 have hs1 : W0.heap.size ≤ W1.heap.size := hx1.size
 clear hown hgrow hnil hx1 j0 j1 j2 j3 j4 j5 j6 j7 j8 j9 j10 j11 j12 HJ0 HR0 HS0 HQ2 HQ4 HQ1
 obtain ⟨A1, c1, hv1, hsp1, hn1, hc1⟩ := OwnS.slice ho1
 subst hv1
 obtain ⟨g', RL, hA', _, hbg1, hBL1, _, _, _⟩ := own_blk ho1 (by rw [HLL.out]; omega)
 obtain ⟨g1, o1, rfl, q0, q1⟩ := hsp1.g (k := 0) (by rw [HLL.out]; omega)
 injection hA' with hA'
 injection hA' with hg' ho1z
 subst hg'
 have HS1 := Lib.hid hsp1
 have HBL1 := Lib.hid hBL1; have HO1 := Lib.hid ho1z
 clear hsp1 ho1 hBL1 ho1z q0 q1
 rw [HLL.out] at hn1 ⊢
 go_upto_region 2 with fail
 obtain ⟨b', o', hbo, u0, u1⟩ := HS1.out.g (k := nL - 1) (by rw [HLL.out]; omega)
 obtain ⟨rfl, rfl⟩ : g1 = b' ∧ o1 = o' := by
  injection hbo with h; injection h with h1 h2; exact ⟨h1, h2⟩
 obtain ⟨b', o', hbo', u2, u3⟩ := HS1.out.g (k := 0) (by rw [HLL.out]; omega)
 obtain ⟨rfl, rfl⟩ : g1 = b' ∧ o1 = o' := by
  injection hbo' with h; injection h with h1 h2; exact ⟨h1, h2⟩
 obtain ⟨lx, hlx⟩ : ∃ z, z = (gS L (nL - 1)).1 := ⟨_, rfl⟩
 obtain ⟨ly, hly⟩ : ∃ z, z = (gS L (nL - 1)).2 := ⟨_, rfl⟩
 obtain ⟨fx, hfx⟩ : ∃ z, z = (gS L 0).1 := ⟨_, rfl⟩
 obtain ⟨fy, hfy⟩ : ∃ z, z = (gS L 0).2 := ⟨_, rfl⟩
 rw [← hlx] at u0; rw [← hly] at u1; rw [← hfx] at u2; rw [← hfy] at u3
 have HBK : Hid ([gS L (L.length - 1), (px, py), gS L 0] = [(lx, ly), (px, py), (fx, fy)]) := by show _ = _; rw [HLL.out, hlx, hly, hfx, hfy]
 simp only [Nat.zero_mul, Nat.add_zero] at u2 u3
 clear hlx hly hfx hfy hbo hbo'
 have hw1 : IntKind.i64.wrap ((nL : Int) - 1) = (nL : Int) - 1 := IntWalk.i64_in _ (by omega)
 have hi1 : ¬ ((nL : Int) < 1) := by omega
 have hi2 : (nL : Int) - 1 < (nL : Int) := by omega
 have hi3 : ((nL : Int) - 1).toNat = nL - 1 := by omega
 have hi4 : ¬ nL = 0 := by omega
 refine region_slotsL (l := 12) (N := 167) (W0 := W1) [18, 19, 20, 21, 22, 23, 24, 25, 26, 27, 28, 29] [Fx (.slice (some ⟨g1, o1, none⟩) nL c1), Fx (.slice (some ⟨g1, o1, none⟩) nL c1), Fx (.int .i64 (nL : Int)), Fx (.int .i64 ((nL : Int) - 1)), Fx (.pointer (some ⟨g1, o1 + (nL - 1) * 2, none⟩)), Fx (SV (lx, ly)), Fx (.pointer (some ⟨w.heap.size, 9, none⟩)), Fx (SV (px, py)), Fx (.slice (some ⟨g1, o1, none⟩) nL c1), Fx (.pointer (some ⟨g1, o1, none⟩)), Fx (SV (fx, fy)), IsRow3 49 (scells [(lx, ly), (px, py), (fx, fy)])] (by kernel_rfl) (by kernel_rfl) (by kernel_rfl) (by kernel_rfl) (Ext.refl _) ?kp (fun i hi => ?_) (fun xs w1 hx hT => ?_)
 case kp => exact ⟨Fx.kp _, Fx.kp _, Fx.kp _, Fx.kp _, Fx.kp _, Fx.kp _, Fx.kp _, Fx.kp _, Fx.kp _, Fx.kp _, Fx.kp _, IsRow3.kp _ _, trivial⟩
 ·match i, hi with
  |0, _ =>
   refine so rfl ?_
   intro fb wi hx hb hd K hK
   have x3 : fb.eval (.tmp 3) = .slice (some ⟨g1, o1, none⟩) nL c1 := hb 3 (by kernel_rfl)
   refine step_valR (wanted_all rfl) (v := .slice (some ⟨g1, o1, none⟩) nL c1) (w' := wi) (fun ρ hρ hc => ?_) (hK _ _ (Ext.refl _) (rfl))
   have r3 := (hρ (.tmp 3)).trans x3
   simp [execOp, go_sem, r3]
  |1, _ =>
   refine so rfl ?_
   intro fb wi hx hb hd K hK
   have x3 : fb.eval (.tmp 3) = .slice (some ⟨g1, o1, none⟩) nL c1 := hb 3 (by kernel_rfl)
   refine step_valR (wanted_all rfl) (v := .slice (some ⟨g1, o1, none⟩) nL c1) (w' := wi) (fun ρ hρ hc => ?_) (hK _ _ (Ext.refl _) (rfl))
   have r3 := (hρ (.tmp 3)).trans x3
   simp [execOp, go_sem, r3]
  |2, _ =>
   refine so rfl ?_
   intro fb wi hx hb hd K hK
   have x19 : fb.eval (.tmp 19) = .slice (some ⟨g1, o1, none⟩) nL c1 := hd 1 19 rfl (by kernel_rfl)
   refine step_valR (wanted_all rfl) (v := .int .i64 (nL : Int)) (w' := wi) (fun ρ hρ hc => ?_) (hK _ _ (Ext.refl _) (rfl))
   have r19 := (hρ (.tmp 19)).trans x19
   simp [execOp, go_sem, r19]
  |3, _ =>
   refine so rfl ?_
   intro fb wi hx hb hd K hK
   have x20 : fb.eval (.tmp 20) = .int .i64 (nL : Int) := hd 2 20 rfl (by kernel_rfl)
   refine step_valR (wanted_all rfl) (v := .int .i64 ((nL : Int) - 1)) (w' := wi) (fun ρ hρ hc => ?_) (hK _ _ (Ext.refl _) (rfl))
   have r20 := (hρ (.tmp 20)).trans x20
   simp [execOp, go_sem, hc, r20, hw1]
  |4, _ =>
   refine so rfl ?_
   intro fb wi hx hb hd K hK
   have x18 : fb.eval (.tmp 18) = .slice (some ⟨g1, o1, none⟩) nL c1 := hd 0 18 rfl (by kernel_rfl)
   have x21 : fb.eval (.tmp 21) = .int .i64 ((nL : Int) - 1) := hd 3 21 rfl (by kernel_rfl)
   refine step_valR (wanted_all rfl) (v := .pointer (some ⟨g1, o1 + (nL - 1) * 2, none⟩)) (w' := wi) (fun ρ hρ hc => ?_) (hK _ _ (Ext.refl _) (rfl))
   have r18 := (hρ (.tmp 18)).trans x18
   have r21 := (hρ (.tmp 21)).trans x21
   simp [execOp, go_sem, r18, r21, hi1, hi2, hi3]
  |5, _ =>
   refine so rfl ?_
   intro fb wi hx hb hd K hK
   have x22 : fb.eval (.tmp 22) = .pointer (some ⟨g1, o1 + (nL - 1) * 2, none⟩) := hd 4 22 rfl (by kernel_rfl)
   have q0 := hx.cell u0; have q1 := hx.cell u1
   refine step_valR (wanted_all rfl) (v := SV (lx, ly)) (w' := wi) (fun ρ hρ hc => ?_) (hK _ _ (Ext.refl _) (rfl))
   have r22 := (hρ (.tmp 22)).trans x22
   simp [execOp, go_sem, r22, q0, q1]
  |6, _ =>
   refine so rfl ?_
   intro fb wi hx hb hd K hK
   have x1 : fb.eval (.tmp 1) = .pointer (some ⟨w.heap.size, 0, none⟩) := hb 1 (by kernel_rfl)
   refine step_valR (wanted_all rfl) (v := .pointer (some ⟨w.heap.size, 9, none⟩)) (w' := wi) (fun ρ hρ hc => ?_) (hK _ _ (Ext.refl _) (rfl))
   have r1 := (hρ (.tmp 1)).trans x1
   simp [execOp, go_sem, r1]
  |7, _ =>
   refine so rfl ?_
   intro fb wi hx hb hd K hK
   have x24 : fb.eval (.tmp 24) = .pointer (some ⟨w.heap.size, 9, none⟩) := hd 6 24 rfl (by kernel_rfl)
   have q0 := (HJ1.out.ext hx).cell 9; have q1 := (HJ1.out.ext hx).cell 10
   simp only [List.getElem?_cons_zero, List.getElem?_cons_succ] at q0 q1
   refine step_valR (wanted_all rfl) (v := SV (px, py)) (w' := wi) (fun ρ hρ hc => ?_) (hK _ _ (Ext.refl _) (rfl))
   have r24 := (hρ (.tmp 24)).trans x24
   simp [execOp, go_sem, r24, q0, q1]
  |8, _ =>
   refine so rfl ?_
   intro fb wi hx hb hd K hK
   have x3 : fb.eval (.tmp 3) = .slice (some ⟨g1, o1, none⟩) nL c1 := hb 3 (by kernel_rfl)
   refine step_valR (wanted_all rfl) (v := .slice (some ⟨g1, o1, none⟩) nL c1) (w' := wi) (fun ρ hρ hc => ?_) (hK _ _ (Ext.refl _) (rfl))
   have r3 := (hρ (.tmp 3)).trans x3
   simp [execOp, go_sem, r3]
  |9, _ =>
   refine so rfl ?_
   intro fb wi hx hb hd K hK
   have x26 : fb.eval (.tmp 26) = .slice (some ⟨g1, o1, none⟩) nL c1 := hd 8 26 rfl (by kernel_rfl)
   refine step_valR (wanted_all rfl) (v := .pointer (some ⟨g1, o1, none⟩)) (w' := wi) (fun ρ hρ hc => ?_) (hK _ _ (Ext.refl _) (rfl))
   have r26 := (hρ (.tmp 26)).trans x26
   simp [execOp, go_sem, hc, r26, hi4]
  |10, _ =>
   refine so rfl ?_
   intro fb wi hx hb hd K hK
   have x27 : fb.eval (.tmp 27) = .pointer (some ⟨g1, o1, none⟩) := hd 9 27 rfl (by kernel_rfl)
   have q0 := hx.cell u2; have q1 := hx.cell u3
   refine step_valR (wanted_all rfl) (v := SV (fx, fy)) (w' := wi) (fun ρ hρ hc => ?_) (hK _ _ (Ext.refl _) (rfl))
   have r27 := (hρ (.tmp 27)).trans x27
   simp [execOp, go_sem, r27, q0, q1]
  |11, _ =>
   refine so rfl ?_
   intro fb wi hx hb hd K hK
   have x23 : fb.eval (.tmp 23) = SV (lx, ly) := hd 5 23 rfl (by kernel_rfl)
   have x25 : fb.eval (.tmp 25) = SV (px, py) := hd 7 25 rfl (by kernel_rfl)
   have x28 : fb.eval (.tmp 28) = SV (fx, fy) := hd 10 28 rfl (by kernel_rfl)
   refine step_valR (wanted_all rfl) (v := .slice (some ⟨wi.heap.size, 0, none⟩) 3 3) (w' := wi.alloc (.cells (scells [(lx, ly), (px, py), (fx, fy)]).toArray 49)) (fun ρ hρ hc => ?_) (hK _ _ ((Ext.refl _).alloc _) (⟨wi.heap.size, rfl, Blk.new' rfl⟩))
   have r23 := (hρ (.tmp 23)).trans x23
   have r25 := (hρ (.tmp 25)).trans x25
   have r28 := (hρ (.tmp 28)).trans x28
   simp [execOp, go_sem, r23, r25, r28, scells]
  |n + 12, hn => exact absurd hn (by omega)
 ·skip
  have t29 : IsRow3 49 (scells [(lx, ly), (px, py), (fx, fy)]) (xs 11) w1 := hT 11 (by decide)
  simp only [frOf, putAll, List.drop_succ_cons, List.drop_zero, List.setIfInBounds_toArray, List.set_cons_succ, List.set_cons_zero, Nat.zero_add, Nat.reduceAdd]
  have hT4 : IsRow3 49 (scells [(lx, ly), (px, py), (fx, fy)]) (xs 11) w1 := hT 11 (by decide)
  obtain ⟨g4, hg4, hb4⟩ := hT4
  rw [hg4]
  have HB4 := Lib.hid hb4
  have hx4 := hx
  have HX4 := Lib.hid (HX1.out.trans hx)
  have HJ4 := Lib.hid (HJ1.out.ext hx); have HR4 := Lib.hid (HR1.out.ext hx); have HS4 := Lib.hid (HS1.out.ext hx); have HBL4 := Lib.hid (HBL1.out.ext hx)
  have hs4 : W1.heap.size ≤ w1.heap.size := hx.size
  obtain ⟨W4, hW4⟩ : ∃ W, W = w1 := ⟨_, rfl⟩
  rw [← hW4] at HB4 HX4 HJ4 HR4 HS4 HBL4 hs4 ⊢
  clear hW4 hT hg4 hb4 hx hx4 HJ1 HR1 HS1 HBL1 HX1 u0 u1 u2 u3 hw1 hi1 hi2 hi3 hi4
  obtain ⟨j0, j1, j2, j3, j4, j5, j6, j7, j8, j9, j10, j11, j12⟩ := blk13 HJ4.out
  have hgj4 : w.heap.size < W4.heap.size := HJ4.out.lt
  go_upto_region 4 with fail
  refine wp_at fun W5 hW5 => ?_
  obtain ⟨B, hB⟩ : ∃ B, B = W4.heap.size := ⟨_, rfl⟩
  have HE5 : Hid (Blk 59 W5 B [.string joinN, .slice (some ⟨g1, o1, none⟩) nL c1, .string backN, .slice (some ⟨g4, 0, none⟩) 3 3]) := by show Blk _ _ _ _; rw [hW5, hB]; exact (Blk.new' rfl).ext ((((Ext.refl _).alloc _).alloc _).alloc _)
  have HC5 : Hid (Blk 49 W5 (B + 1) (scells [(sx, sy), (ex, ey)])) := by show Blk _ _ _ _; rw [hW5, hB]; exact (Blk.new' (by simp)).ext (((Ext.refl _).alloc _).alloc _)
  have HI5 : Hid (Blk 3 W5 (B + 1 + 1) (icells [0, 0])) := by show Blk _ _ _ _; rw [hW5, hB]; exact (Blk.new' (by simp)).ext ((Ext.refl _).alloc _)
  have HP5 : Hid (Blk 40 W5 (B + 1 + 1 + 1) [.string oneN, .slice (some ⟨B, 0, none⟩) 2 2, .int .i64 1, .slice none 0 0, .slice (some ⟨B + 1, 0, none⟩) 2 2, .slice (some ⟨B + 1 + 1, 0, none⟩) 2 2, .bool false]) := by show Blk _ _ _ _; rw [hW5, hB]; exact Blk.new' (by simp)
  have hx5 : Ext W4 W5 := by rw [hW5]; exact ((((Ext.refl _).alloc _).alloc _).alloc _).alloc _
  have HX5 := Lib.hid (HX4.out.trans hx5); have HJ5 := Lib.hid (HJ4.out.ext hx5); have HR5 := Lib.hid (HR4.out.ext hx5); have HS5 := Lib.hid (HS4.out.ext hx5); have HBL5 := Lib.hid (HBL4.out.ext hx5); have HB5 := Lib.hid (HB4.out.ext hx5)
  have hb5 : W0.heap.size ≤ B := by rw [hB]; omega
  have hb51 : g1 < B := by rw [hB]; obtain ⟨b', o', hbo, q0, q1⟩ := HS4.out.g (k := 0) (by rw [HLL.out]; omega); injection hbo with h; injection h with h1 h2; subst h1; exact cell_lt q0
  have hb54 : g4 < B := by rw [hB]; exact HB4.out.lt
  rw [← hB]
  clear hW5 hB j0 j1 j2 j3 j4 j5 j6 j7 j8 j9 j10 j11 j12 HX4 HJ4 HR4 HS4 HBL4 HB4 hs4 hs1 hx5
  have hg5 : B + 1 + 1 + 1 < W5.heap.size := HP5.out.lt
  go_wp2_with fail
  go_loopw [6] (fun i wr => ∃ (k : Nat) (vN : Value), k ≤ nN ∧ i = .int .i64 k ∧ Blk 40 wr (B + 1 + 1 + 1) [.string oneN, .slice (some ⟨B, 0, none⟩) 2 2, .int .i64 1, vN, .slice (some ⟨B + 1, 0, none⟩) 2 2, .slice (some ⟨B + 1 + 1, 0, none⟩) 2 2, .bool false] ∧ OwnT 79 wr W5.heap.size vN ((ns.take k).map fun a => ((0 : Int), a)) ∧ Kept (fun b => b = B + 1 + 1 + 1) W5 wr) (fun i _ => nN - (intOf i).toNat)
  case atStart => exact ⟨0, _, Nat.zero_le _, rfl, HP5.out, World.ownsRow_nil _ _ _ _, Kept.refl _ _⟩
  case round =>
   obtain ⟨k, vN, hk, rfl, hp, ho, hkp⟩ := hrel
   have HP := Lib.hid hp; have HO := Lib.hid ho; have HKP := Lib.hid hkp
   clear hp ho hkp
   obtain ⟨wR, rfl⟩ : ∃ wR : World, wR = wr := ⟨_, rfl⟩
   have hgpw : B + 1 + 1 + 1 < wR.heap.size := HP.out.lt
   have HXr : Hid (Ext w wR) := HKP.out.ext HX5.out (fun b e => by subst e; omega)
   have HJr := Lib.hid (HKP.out.blk HJ5.out (by omega))
   by_cases hlt : k < nN
   ·obtain ⟨bn, on, rfl, n0⟩ := (HSN.out.ext HXr.out).g (k := k) (by rw [HLN.out]; exact hlt)
    obtain ⟨nk, hnk⟩ : ∃ z, z = gI ns k := ⟨_, rfl⟩
    rw [← hnk] at n0
    have HNK := Lib.hid hnk
    have HN0 := Lib.hid n0
    obtain ⟨NL, hNL⟩ : ∃ NL, NL = (ns.take k).map fun a => ((0 : Int), a) := ⟨_, rfl⟩
    rw [← hNL] at HO
    have hnl : NL.length = k := by rw [hNL, List.length_map, List.length_take, HLN.out]; omega
    have HNL := Lib.hid hNL
    have HNLL := Lib.hid hnl
    clear hnk n0 hNL hnl
    obtain ⟨m0, hm0, hv0, hv1, hv2⟩ := info_parts notch_info
    have hk1 : (k : Int) < (nN : Int) := by omega
    obtain ⟨j0, j1, j2, j3, j4, j5, j6, j7, j8, j9, j10, j11, j12⟩ := blk13 HJr.out
    go_upto_region 7 with fail
    clear j0 j1 j2 j3 j4 j5 j6 j7 j8 j9 j10 j11 j12
    refine region_slotsD (m := 3) (l := 9) (N := 167) (W0 := wR) [49, 50, 51, 52, 53, 54, 55, 56, 57] [Fx (.pointer (some ⟨B + 1 + 1 + 1, 3, none⟩)), Fx (vN), Fx (.pointer (some ⟨w.heap.size, 12, none⟩)), Fx (.slice (some ⟨bn, on, none⟩) nN cN), Fx (.int .i64 (k : Int)), Fx (.pointer (some ⟨bn, on + k, none⟩)), Fx (.int .i64 nk), Fx (.agg #[.int .i64 0, .int .i64 nk]), IsRow1 79 [.int .i64 0, .int .i64 nk]] (by kernel_rfl) (by omega) (by kernel_rfl) (by kernel_rfl) (by kernel_rfl) (Ext.refl _) ?kp (fun i hi => ?_) (fun xs w1 hx hT => ?_)
    case kp => exact ⟨Fx.kp _, Fx.kp _, Fx.kp _, Fx.kp _, Fx.kp _, Fx.kp _, Fx.kp _, Fx.kp _, IsRow1.kp _ _, trivial⟩
    ·match i, hi with
     |0, _ =>
      refine so rfl ?_
      intro fb wi hx hb hd K hK
      have x5 : fb.eval (.tmp 5) = .pointer (some ⟨B + 1 + 1 + 1, 0, none⟩) := hb 5 (by kernel_rfl)
      refine step_valR (wanted_all rfl) (v := .pointer (some ⟨B + 1 + 1 + 1, 3, none⟩)) (w' := wi) (fun ρ hρ hc => ?_) (hK _ _ (Ext.refl _) (rfl))
      have r5 := (hρ (.tmp 5)).trans x5
      simp [execOp, go_sem, r5]
     |1, _ =>
      refine so rfl ?_
      intro fb wi hx hb hd K hK
      have x49 : fb.eval (.tmp 49) = .pointer (some ⟨B + 1 + 1 + 1, 3, none⟩) := hd 0 49 rfl (by kernel_rfl)
      have cf0 := (HP.out.ext hx).cell 3
      simp only [List.getElem?_cons_zero, List.getElem?_cons_succ] at cf0
      refine step_valR (wanted_all rfl) (v := vN) (w' := wi) (fun ρ hρ hc => ?_) (hK _ _ (Ext.refl _) (rfl))
      have r49 := (hρ (.tmp 49)).trans x49
      simp [execOp, go_sem, r49, cf0]
     |2, _ =>
      refine so rfl ?_
      intro fb wi hx hb hd K hK
      have x1 : fb.eval (.tmp 1) = .pointer (some ⟨w.heap.size, 0, none⟩) := hb 1 (by kernel_rfl)
      refine step_valR (wanted_all rfl) (v := .pointer (some ⟨w.heap.size, 12, none⟩)) (w' := wi) (fun ρ hρ hc => ?_) (hK _ _ (Ext.refl _) (rfl))
      have r1 := (hρ (.tmp 1)).trans x1
      simp [execOp, go_sem, r1]
     |3, _ =>
      refine so rfl ?_
      intro fb wi hx hb hd K hK
      have x51 : fb.eval (.tmp 51) = .pointer (some ⟨w.heap.size, 12, none⟩) := hd 2 51 rfl (by kernel_rfl)
      have cf0 := (HJr.out.ext hx).cell 12
      simp only [List.getElem?_cons_zero, List.getElem?_cons_succ] at cf0
      refine step_valR (wanted_all rfl) (v := .slice (some ⟨bn, on, none⟩) nN cN) (w' := wi) (fun ρ hρ hc => ?_) (hK _ _ (Ext.refl _) (rfl))
      have r51 := (hρ (.tmp 51)).trans x51
      simp [execOp, go_sem, r51, cf0]
     |4, _ =>
      refine so rfl ?_
      intro fb wi hx hb hd K hK
      have x6 : fb.eval (.tmp 6) = .int .i64 (k : Int) := hb 6 (by kernel_rfl)
      refine step_valR (wanted_all rfl) (v := .int .i64 (k : Int)) (w' := wi) (fun ρ hρ hc => ?_) (hK _ _ (Ext.refl _) (rfl))
      have r6 := (hρ (.tmp 6)).trans x6
      simp [execOp, go_sem, r6]
     |5, _ =>
      refine so rfl ?_
      intro fb wi hx hb hd K hK
      have x52 : fb.eval (.tmp 52) = .slice (some ⟨bn, on, none⟩) nN cN := hd 3 52 rfl (by kernel_rfl)
      have x53 : fb.eval (.tmp 53) = .int .i64 (k : Int) := hd 4 53 rfl (by kernel_rfl)
      refine step_valR (wanted_all rfl) (v := .pointer (some ⟨bn, on + k, none⟩)) (w' := wi) (fun ρ hρ hc => ?_) (hK _ _ (Ext.refl _) (rfl))
      have r52 := (hρ (.tmp 52)).trans x52
      have r53 := (hρ (.tmp 53)).trans x53
      simp [execOp, go_sem, r52, r53, hk1, hlt]
     |6, _ =>
      refine so rfl ?_
      intro fb wi hx hb hd K hK
      have x54 : fb.eval (.tmp 54) = .pointer (some ⟨bn, on + k, none⟩) := hd 5 54 rfl (by kernel_rfl)
      have q0 := hx.cell HN0.out
      refine step_valR (wanted_all rfl) (v := .int .i64 nk) (w' := wi) (fun ρ hρ hc => ?_) (hK _ _ (Ext.refl _) (rfl))
      have r54 := (hρ (.tmp 54)).trans x54
      simp [execOp, go_sem, r54, q0]
     |7, _ =>
      refine so rfl ?_
      intro fb wi hx hb hd K hK
      have x55 : fb.eval (.tmp 55) = .int .i64 nk := hd 6 55 rfl (by kernel_rfl)
      refine step_valR (wanted_all rfl) (v := .agg #[.int .i64 0, .int .i64 nk]) (w' := wi) (fun ρ hρ hc => ?_) (hK _ _ (Ext.refl _) (rfl))
      have r55 := (hρ (.tmp 55)).trans x55
      simp [execOp, go_sem, r55]
     |8, _ =>
      refine so rfl ?_
      intro fb wi hx hb hd K hK
      have x56 : fb.eval (.tmp 56) = .agg #[.int .i64 0, .int .i64 nk] := hd 7 56 rfl (by kernel_rfl)
      refine step_valR (wanted_all rfl) (v := .slice (some ⟨wi.heap.size, 0, none⟩) 1 1) (w' := wi.alloc (.cells #[.int .i64 0, .int .i64 nk] 79)) (fun ρ hρ hc => ?_) (hK _ _ ((Ext.refl _).alloc _) (⟨wi.heap.size, rfl, Blk.new' rfl⟩))
      have r56 := (hρ (.tmp 56)).trans x56
      simp [execOp, go_sem, r56]
     |n + 9, hn => exact absurd hn (by omega)
    ·skip
     have t50 : Fx (vN) (xs 1) w1 := hT 1 (by decide)
     have t57 : IsRow1 79 [.int .i64 0, .int .i64 nk] (xs 8) w1 := hT 8 (by decide)
     simp only [frOf, putAll, List.drop_succ_cons, List.drop_zero, List.setIfInBounds_toArray, List.set_cons_succ, List.set_cons_zero, Nat.zero_add, Nat.reduceAdd]
     have hT8 : IsRow1 79 [.int .i64 0, .int .i64 nk] (xs 8) w1 := hT 8 (by decide)
     have hT1 : xs 1 = vN := hT 1 (by decide)
     obtain ⟨gR, hgR, hbR⟩ := hT8
     rw [hgR, hT1]
     have HBR := Lib.hid hbR
     have HX7 := Lib.hid hx
     have hs7 : wR.heap.size ≤ w1.heap.size := hx.size
     have hs75 : W5.heap.size ≤ w1.heap.size := Nat.le_trans HKP.out.size hs7
     clear hT hgR hT1 hbR hx
     refine wpList_append_lies _ rfl (.tmp 50) (.tmp 57) 37 rfl W5.heap.size 79 m0 (.agg #[.int .i64 0, .int .i64 0]) 2 16 Tryz.underlying37 hm0 hv0 hv1 hv2 rfl (by decide) vN NL.length (scells NL) rfl (own_ext HO.out HX7.out) ⟨gR, 0, none⟩ 1 1 [.int .i64 0, .int .i64 nk] rfl rfl (blk_news HBR.out) (by simp [Value.oneCell']) (by decide) (by rw [HNLL.out]; unfold maxLen; omega) (by rw [HNLL.out]; omega) hs75 w1.heap.size rfl ?_
     intro gg cap w2 hown hgrow hat hlt2
     have hlow : ∀ b, vN.ownBlock = some b → W5.heap.size ≤ b := fun b hb => (World.ownsRow.lt HO.out b hb).1
     have hk7 : Kept (fun b => b = B + 1 + 1 + 1) W5 w2 := (HKP.out.trans (HX7.out.kept _)).grownB hgrow hlow
     have hp2 : Blk 40 w2 (B + 1 + 1 + 1) [.string oneN, .slice (some ⟨B, 0, none⟩) 2 2, .int .i64 1, vN, .slice (some ⟨B + 1, 0, none⟩) 2 2, .slice (some ⟨B + 1 + 1, 0, none⟩) 2 2, .bool false] := by
      have h1 := HP.out.ext HX7.out
      exact (hgrow.block _ h1.lt (fun e => by have := hlow _ e.symm; omega)).trans h1
     have hgg : ¬ gg = B + 1 + 1 + 1 := by
      rcases hat with h | h
      ·have := hlow _ h; omega
      ·omega
     have ho2 : OwnT 79 w2 W5.heap.size (.slice (some ⟨gg, 0, none⟩) (NL.length + 1) cap) ((ns.take (k + 1)).map fun a => ((0 : Int), a)) := by
      have e : (ns.take (k + 1)).map (fun a => ((0 : Int), a)) = NL ++ [((0 : Int), nk)] := by
       rw [HNL.out, take_succ _ _ (by rw [HLN.out]; exact hlt), List.map_append, HNK.out, gI_eq (by rw [HLN.out]; exact hlt)]; rfl
      rw [e]
      show w2.ownsRow _ _ _ _ (NL ++ [((0 : Int), nk)]).length _
      rw [List.length_append, scells_append]
      exact hown
     have HO2 := Lib.hid ho2; have HP2 := Lib.hid hp2; have HK7 := Lib.hid hk7
     clear hown hgrow hat hlow hk7 hp2 ho2 HBR HX7 hs7 hs75 hm0 hv0 hv1 hv2
     clear m0
     obtain ⟨p0, p1, p2, p3, p4, p5, p6⟩ := blk7 HP2.out
     have f3 := HP2.out.frozen 3
     rw [HNLL.out] at HO2 ⊢
     generalize xs 0 = y0
     generalize xs 2 = y2
     generalize xs 3 = y3
     generalize xs 4 = y4
     generalize xs 5 = y5
     generalize xs 6 = y6
     generalize xs 7 = y7
     clear t50 t57 xs
     go_wp2_with fail
     go_roundw
     case rel =>
      refine ⟨k + 1, _, by omega, by go_num, HP2.out.set 3 _, ?_, kset HK7.out _ _⟩
      exact own_set HO2.out (fun e => hgg (by simpa [Value.ownBlock] using e)) _
     case measure => simp [intOf]; omega
   ·obtain rfl : nN = k := by omega
    obtain ⟨NL, hNL⟩ : ∃ NL, NL = (ns.take nN).map fun a => ((0 : Int), a) := ⟨_, rfl⟩
    rw [← hNL] at HO
    have hnl : NL.length = nN := by rw [hNL, List.length_map, List.length_take, HLN.out]; omega
    have hNE : NL = ns.map fun a => ((0 : Int), a) := by rw [hNL, List.take_of_length_le (by rw [HLN.out]; omega)]
    obtain ⟨VA, vc, hvf⟩ := OwnT.form2 HO.out
    rw [hnl] at hvf
    subst hvf
    have HNE' := Lib.hid hNE; have HNLL := Lib.hid hnl
    clear hNL hnl hNE
    obtain ⟨j0, j1, j2, j3, j4, j5, j6, j7, j8, j9, j10, j11, j12⟩ := blk13 HJr.out
    obtain ⟨p0, p1, p2, p3, p4, p5, p6⟩ := blk7 HP.out
    have hjw : w.heap.size < wR.heap.size := HJr.out.lt
    have hjw1 : w.heap.size < wR.heap.size + 1 := by omega
    have hpw1 : B + 1 + 1 + 1 < wR.heap.size + 1 := by omega
    have hne8 : ¬ B + 1 + 1 + 1 = wR.heap.size := by omega
    go_upto_region 10 with fail
    refine wp_at fun W8 hW8 => ?_
    have HT8 : Hid (Blk 31 W8 wR.heap.size [.bool false, .int .i64 q]) := by show Blk _ _ _ _; rw [hW8]; exact (Blk.new' rfl).ext ((Ext.refl _).alloc _)
    have HG8 : Hid (Blk 40 W8 (wR.heap.size + 1) [.string oneN, .slice (some ⟨B, 0, none⟩) 2 2, .int .i64 1, .slice VA nN vc, .slice (some ⟨B + 1, 0, none⟩) 2 2, .slice (some ⟨B + 1 + 1, 0, none⟩) 2 2, .bool false]) := by show Blk _ _ _ _; rw [hW8]; exact Blk.new' (by simp)
    have hx8 : Ext wR W8 := by rw [hW8]; exact ((Ext.refl _).alloc _).alloc _
    have HP8 := Lib.hid (HP.out.ext hx8); have HO8 := Lib.hid (own_ext HO.out hx8); have HX8 := Lib.hid (HXr.out.trans hx8); have HJ8 := Lib.hid (HJr.out.ext hx8)
    have HK8 := Lib.hid (HKP.out.trans (hx8.kept _))
    have hg8 : wR.heap.size + 1 < W8.heap.size := HG8.out.lt
    have hs8 : W5.heap.size ≤ wR.heap.size := HKP.out.size
    obtain ⟨T, hT⟩ : ∃ T, T = wR.heap.size := ⟨_, rfl⟩
    rw [← hT] at HT8 HG8 hg8 hs8 ⊢
    clear hW8 hx8 j0 j1 j2 j3 j4 j5 j6 j7 j8 j9 j10 j11 j12 p0 p1 p2 p3 p4 p5 p6 hjw hjw1 hpw1 hne8 HXr HJr HKP HP HO hgpw hT
    obtain ⟨p0, p1, p2, p3, p4, p5, p6⟩ := blk7 HG8.out
    have f0 := HG8.out.frozen 0
    go_upto_region 11 with fail
    refine wp_at fun W9 hW9 => ?_
    have HG9 : Hid (Blk 40 W9 (T + 1) [.string twoN, .slice (some ⟨B, 0, none⟩) 2 2, .int .i64 1, .slice VA nN vc, .slice (some ⟨B + 1, 0, none⟩) 2 2, .slice (some ⟨B + 1 + 1, 0, none⟩) 2 2, .bool false]) := by show Blk _ _ _ _; rw [hW9]; exact HG8.out.set 0 _
    have hk9 : Kept (fun b => b = T + 1) W8 W9 := by rw [hW9]; exact kset (Kept.refl _ _) _ _
    have HT9 := Lib.hid (hk9.blk HT8.out (by omega)); have HP9 := Lib.hid (hk9.blk HP8.out (by omega)); have HJ9 := Lib.hid (hk9.blk HJ8.out (by omega))
    have HO9 : Hid (OwnT 79 W9 W5.heap.size (.slice VA nN vc) NL) := by
     refine own_kept HO8.out hk9 (fun b hb e => ?_)
     subst e
     exact own_blk_ne HO8.out HG8.out (by decide) hb
    have hx9 : Kept (fun b => B + 1 + 1 + 1 = b ∨ T + 1 ≤ b) W5 W9 := (HK8.out.mono (fun k _ e => Or.inl e.symm)).trans (hk9.mono (fun k _ e => Or.inr (by omega)))
    have HE9 := Lib.hid (hx9.blk HE5.out (by have := HE5.out.lt; omega)); have HC9 := Lib.hid (hx9.blk HC5.out (by have := HC5.out.lt; omega)); have HI9 := Lib.hid (hx9.blk HI5.out (by have := HI5.out.lt; omega))
    have hb1 : g1 < W5.heap.size := by omega
    have HB9 := Lib.hid (hx9.blk HB5.out (by omega))
    have HX9 : Hid (Ext w W9) := hk9.ext HX8.out (fun b e => by omega)
    have HS9 : Hid (SpotsAt W9 (some ⟨g1, o1, none⟩) L) := SpotsAt.of_g fun k hk => by
     obtain ⟨b', o', hbo, q0, q1⟩ := HS5.out.g hk
     injection hbo with h; injection h with e1 e2
     subst e1 e2
     refine ⟨g1, o1, rfl, ?_, ?_⟩
     ·exact (World.cell?_of_block (hx9.block g1 hb1 (by omega))).trans q0
     ·exact (World.cell?_of_block (hx9.block g1 hb1 (by omega))).trans q1
    clear hW9 p0 p1 p2 p3 p4 p5 p6 f0 HG8 HT8 HP8 HJ8 HO8 HX8 HK8 hk9
    have HBL : Hid (SpotsAt W9 (some ⟨g4, 0, none⟩) [(lx, ly), (px, py), (fx, fy)]) := spots_pre (R := []) (by simpa using HB9.out)
    have HEA : Hid (EdgesAt W9 (some ⟨B, 0, none⟩) [(joinN, L), (backN, [(lx, ly), (px, py), (fx, fy)])]) := by
     intro k hk
     match k, hk with
     |0, _ => exact ⟨B, 0, some ⟨g1, o1, none⟩, c1, rfl, HE9.out.cell 0, by have := HE9.out.cell 1; rw [← HLL.out] at this; exact this, HS9.out, by show L.length ≤ c1; rw [HLL.out]; exact hn1, hc1⟩
     |1, _ => exact ⟨B, 0, some ⟨g4, 0, none⟩, 3, rfl, HE9.out.cell 2, HE9.out.cell 3, HBL.out, Nat.le_refl _, by decide⟩
    obtain ⟨p0, p1, p2, p3, p4, p5, p6⟩ := blk7 HP9.out
    obtain ⟨t0, t1⟩ := blk2 HT9.out
    go_wp2_with fail
    refine (rturned_sep (some ⟨B, 0, none⟩) 2 2 false q _ W9 HEA.out rfl (by omega) (fun k hk => ?_)).mono ?_
    ·match k, hk with
     |0, _ => show L.length ≤ 1000; rw [HLL.out]; omega
     |1, _ => show 3 ≤ 1000; omega
    rintro e W10 ⟨v10, rfl, hv10, he10⟩
    rw [turnE2] at hv10
    obtain ⟨M0, hM0⟩ : ∃ M, M = L.map (applyT false q) := ⟨_, rfl⟩
    obtain ⟨M1, hM1⟩ : ∃ M, M = [(lx, ly), (px, py), (fx, fy)].map (applyT false q) := ⟨_, rfl⟩
    rw [← hM0, ← hM1] at hv10
    have hl0 : M0.length = nL := by rw [hM0, List.length_map, HLL.out]
    have hl1 : M1.length = 3 := by rw [hM1]; rfl
    obtain ⟨gE, cE, RE, ga, ca, Ra, gb, cb, Rb, rfl, hBE, hBa, hBb, hbE, hba, hab, ⟨hcE, hcE'⟩, ⟨hca, hca'⟩, ⟨hcb, hcb'⟩⟩ := turned2 hv10 (by rw [hl0]; omega) (by rw [hl1]; omega)
    rw [hl0] at hBE hca
    rw [hl1] at hBE hcb
    have HM0 := Lib.hid hM0; have HM1 := Lib.hid hM1; have HL0 := Lib.hid hl0; have HL1 := Lib.hid hl1
    have HBE := Lib.hid hBE; have HBa := Lib.hid hBa; have HBb := Lib.hid hBb
    have HG10 := Lib.hid (HG9.out.ext he10)
    have hgE : gE < W10.heap.size := hBE.lt
    have hga : ga < W10.heap.size := hBa.lt
    have hgb : gb < W10.heap.size := hBb.lt
    have hne0 : ga ≠ gE := hBa.ne hBE (by decide)
    have hne1 : gb ≠ gE := hBb.ne hBE (by decide)
    have HE10 := Lib.hid he10
    have hs10 : W9.heap.size ≤ W10.heap.size := he10.size
    have hT9 : T + 1 < W9.heap.size := HG9.out.lt
    clear hM0 hM1 hl0 hl1 hv10 hBE hBa hBb he10 p0 p1 p2 p3 p4 p5 p6 t0 t1 HEA HBL
    obtain ⟨p0, p1, p2, p3, p4, p5, p6⟩ := blk7 HG10.out
    have f1 := HG10.out.frozen 1
    go_upto_region 12 with fail
    refine wp_at fun W11 hW11 => ?_
    have HG11 : Hid (Blk 40 W11 (T + 1) [.string twoN, .slice (some ⟨gE, 0, none⟩) 2 cE, .int .i64 1, .slice VA nN vc, .slice (some ⟨B + 1, 0, none⟩) 2 2, .slice (some ⟨B + 1 + 1, 0, none⟩) 2 2, .bool false]) := by show Blk _ _ _ _; rw [hW11]; exact HG10.out.set 1 _
    have hk11 : Kept (fun b => b = T + 1) W10 W11 := by rw [hW11]; exact kset (Kept.refl _ _) _ _
    have hk911 : Kept (fun b => b = T + 1) W9 W11 := (HE10.out.kept _).trans hk11
    have HT11 := Lib.hid (hk911.blk HT9.out (by omega)); have HP11 := Lib.hid (hk911.blk HP9.out (by omega)); have HJ11 := Lib.hid (hk911.blk HJ9.out (by omega))
    have HO11 : Hid (OwnT 79 W11 W5.heap.size (.slice VA nN vc) NL) := by
     refine own_kept HO9.out hk911 (fun b hb e => ?_)
     subst e
     exact own_blk_ne HO9.out HG9.out (by decide) hb
    have HX11 : Hid (Ext w W11) := hk911.ext HX9.out (fun b e => by omega)
    have HK911 := Lib.hid hk911
    have HBE11 := Lib.hid (hk11.blk HBE.out (by omega)); have HBa11 := Lib.hid (hk11.blk HBa.out (by omega)); have HBb11 := Lib.hid (hk11.blk HBb.out (by omega))
    clear hW11 HG9 HG10 HE10 HO9 HT9 HP9 HJ9 HX9 HBE HBa HBb hk11 hk911 p0 p1 p2 p3 p4 p5 p6 f1 hgE hga hgb hs10
    go_wp2_with fail
    have hgaW : ga < W11.heap.size := HBa11.out.lt
    have hgbW : gb < W11.heap.size := HBb11.out.lt
    have HNE : Hid (T + 1 ≠ ga ∧ T + 1 ≠ gb ∧ gE ≠ ga ∧ gE ≠ gb ∧ w.heap.size ≠ ga ∧ w.heap.size ≠ gb) := ⟨by omega, by omega, hne0.symm, hne1.symm, by omega, by omega⟩
    go_loopw [9] (fun i wr => ∃ (k : Nat), k ≤ 2 ∧ i = .int .i64 k ∧ Blk 49 wr ga (scells (if 1 ≤ k then M0.map (moveS (mx, my)) else M0) ++ Ra) ∧ Blk 49 wr gb (scells (if 2 ≤ k then M1.map (moveS (mx, my)) else M1) ++ Rb) ∧ Kept (fun b => b = ga ∨ b = gb) W11 wr) (fun i _ => 2 - (intOf i).toNat)
    case atStart => exact ⟨0, Nat.zero_le _, rfl, by rw [if_neg (by omega)]; exact HBa11.out, by rw [if_neg (by omega)]; exact HBb11.out, Kept.refl _ _⟩
    case round =>
     obtain ⟨k, hk, rfl, ha, hb, hkp⟩ := hrel
     have hkc : k = 0 ∨ k = 1 ∨ k = 2 := by omega
     rcases hkc with rfl | rfl | rfl
     ·rw [if_neg (by omega)] at ha hb
      have HA := Lib.hid ha; have HB := Lib.hid hb; have HKP := Lib.hid hkp
      clear ha hb hkp
      obtain ⟨wA, rfl⟩ : ∃ wA : World, wA = wr := ⟨_, rfl⟩
      have HGA := Lib.hid (HKP.out.blk HG11.out (by have := HNE.out; omega)); have HEAr := Lib.hid (HKP.out.blk HBE11.out (by have := HNE.out; omega)); have HJA := Lib.hid (HKP.out.blk HJ11.out (by have := HNE.out; omega))
      obtain ⟨p0, p1, p2, p3, p4, p5, p6⟩ := blk7 HGA.out
      go_wp2_with fail
      clear p0 p1 p2 p3 p4 p5 p6
      go_loopw [10] (fun i wr => ∃ (j : Nat), j ≤ nL ∧ i = .int .i64 j ∧ Blk 49 wr ga (scells (mixS (fun p => moveS (mx, my) (gS M0 p)) M0 j) ++ Ra) ∧ Blk 49 wr gb (scells M1 ++ Rb) ∧ Kept (fun b => b = ga ∨ b = gb) W11 wr) (fun i _ => nL - (intOf i).toNat)
      case atStart => exact ⟨0, Nat.zero_le _, rfl, by rw [mixS_zero]; exact HA.out, HB.out, HKP.out⟩
      case round =>
       clear HA HB HGA HEAr HJA HKP
       obtain ⟨j, hj, rfl, ha, hb, hkp⟩ := hrel
       have HA := Lib.hid ha; have HB := Lib.hid hb; have HKP := Lib.hid hkp
       clear ha hb hkp
       obtain ⟨wB, rfl⟩ : ∃ wB : World, wB = wr := ⟨_, rfl⟩
       have HGB := Lib.hid (HKP.out.blk HG11.out (by have := HNE.out; omega)); have HEB := Lib.hid (HKP.out.blk HBE11.out (by have := HNE.out; omega)); have HJB := Lib.hid (HKP.out.blk HJ11.out (by have := HNE.out; omega))
       obtain ⟨p0, p1, p2, p3, p4, p5, p6⟩ := blk7 HGB.out
       have e1 : wB.cell? ⟨gE, 2 * 0 + 1, none⟩ = some (.slice (some ⟨ga, 0, none⟩) nL ca) := HEB.out.cell (2 * 0 + 1)
       simp only [Nat.mul_zero, Nat.zero_add, Nat.mul_one, Nat.reduceAdd] at e1
       by_cases hlt : j < nL
       ·have hjM : j < M0.length := by rw [HL0.out]; exact hlt
        have hjm : j < (mixS (fun p => moveS (mx, my) (gS M0 p)) M0 j).length := by rw [mixS_len]; exact hjM
        obtain ⟨c0, c1, f0, f1⟩ := pair_cells HA.out hjm
        obtain ⟨vx, hvx⟩ : ∃ z, z = (gS M0 j).1 := ⟨_, rfl⟩
        obtain ⟨vy, hvy⟩ : ∃ z, z = (gS M0 j).2 := ⟨_, rfl⟩
        rw [mixS_get hjM, if_neg (by omega), ← hvx] at c0
        rw [mixS_get hjM, if_neg (by omega), ← hvy] at c1
        have HMV : Hid (moveS (mx, my) (gS M0 j) = (IntKind.i64.wrap (vx + mx), IntKind.i64.wrap (vy + my))) := by show _ = _; rw [hvx, hvy]; unfold moveS; simp only [IntWalk.i64_left]
        have HC := Lib.hid (show wB.cell? ⟨ga, j * 2, none⟩ = some (.int .i64 vx) ∧ wB.cell? ⟨ga, j * 2 + 1, none⟩ = some (.int .i64 vy) from ⟨c0, c1⟩)
        have HF := Lib.hid (show wB.frozen? ⟨ga, j * 2, none⟩ = false ∧ wB.frozen? ⟨ga, j * 2 + 1, none⟩ = false from ⟨f0, f1⟩)
        clear hvx hvy f0 f1
        have hjn : (j : Int) < (nL : Int) := by omega
        go_upto_region 19 with fail
        refine wp_at fun wS hwS => ?_
        have hxS : Ext wB wS := by rw [hwS]; exact (Ext.refl _).alloc _
        have HPc : Hid (Blk 49 wS wB.heap.size [.int .i64 vx, .int .i64 vy]) := by show Blk _ _ _ _; rw [hwS]; exact Blk.new' rfl
        obtain ⟨P, hP⟩ : ∃ P, P = wB.heap.size := ⟨_, rfl⟩
        rw [← hP] at HPc ⊢
        have HGr := Lib.hid (HGB.out.ext hxS); have HEr := Lib.hid (HEB.out.ext hxS); have HJr := Lib.hid (HJB.out.ext hxS)
        have HAr := Lib.hid (HA.out.ext hxS); have HBr := Lib.hid (HB.out.ext hxS); have HKr := Lib.hid (HKP.out.trans (hxS.kept _))
        have HCr := Lib.hid (show wS.cell? ⟨ga, j * 2, none⟩ = some (.int .i64 vx) ∧ wS.cell? ⟨ga, j * 2 + 1, none⟩ = some (.int .i64 vy) from ⟨hxS.cell HC.out.1, hxS.cell HC.out.2⟩)
        have HFr := Lib.hid (show wS.frozen? ⟨ga, j * 2, none⟩ = false ∧ wS.frozen? ⟨ga, j * 2 + 1, none⟩ = false from ⟨hxS.frz HC.out.1 HF.out.1, hxS.frz HC.out.2 HF.out.2⟩)
        clear hwS hxS hP p0 p1 p2 p3 p4 p5 p6 e1 c0 c1 HC HF HGB HEB HJB HA HB HKP
        refine region_slotsT (m := 2) (l := 20) (N := 167) (W0 := wS) [98, 99, 100, 101, 102, 103, 104, 105, 106, 107, 108, 109, 110, 111, 112, 113, 114, 115, 116, 117] [Fx (.pointer (some ⟨T + 1, 1, none⟩)), Fx (.slice (some ⟨gE, 0, none⟩) 2 cE), Fx (.int .i64 0), Fx (.pointer (some ⟨gE, 0, none⟩)), Fx (.pointer (some ⟨gE, 1, none⟩)), Fx (.slice (some ⟨ga, 0, none⟩) nL ca), Fx (.int .i64 (j : Int)), Fx (.pointer (some ⟨P, 0, none⟩)), Fx (.int .i64 vx), Fx (.pointer (some ⟨w.heap.size, 7, none⟩)), Fx (.pointer (some ⟨w.heap.size, 7, none⟩)), Fx (.int .i64 mx), Fx (.int .i64 (IntKind.i64.wrap (vx + mx))), Fx (.pointer (some ⟨P, 1, none⟩)), Fx (.int .i64 vy), Fx (.pointer (some ⟨w.heap.size, 7, none⟩)), Fx (.pointer (some ⟨w.heap.size, 8, none⟩)), Fx (.int .i64 my), Fx (.int .i64 (IntKind.i64.wrap (vy + my))), Fx (.agg #[.int .i64 (IntKind.i64.wrap (vx + mx)), .int .i64 (IntKind.i64.wrap (vy + my))])] (by kernel_rfl) (by omega) (by kernel_rfl) (by kernel_rfl) (by kernel_rfl) (Ext.refl _) ?kp (fun i hi => ?_) (fun xs w1 hx hT => ?_)
        case kp => exact ⟨Fx.kp _, Fx.kp _, Fx.kp _, Fx.kp _, Fx.kp _, Fx.kp _, Fx.kp _, Fx.kp _, Fx.kp _, Fx.kp _, Fx.kp _, Fx.kp _, Fx.kp _, Fx.kp _, Fx.kp _, Fx.kp _, Fx.kp _, Fx.kp _, Fx.kp _, Fx.kp _, trivial⟩
        ·match i, hi with
         |0, _ =>
          refine so rfl ?_
          intro fb wi hx hb hd K hK
          have x8 : fb.eval (.tmp 8) = .pointer (some ⟨T + 1, 0, none⟩) := hb 8 (by kernel_rfl)
          refine step_valR (wanted_all rfl) (v := .pointer (some ⟨T + 1, 1, none⟩)) (w' := wi) (fun ρ hρ hc => ?_) (hK _ _ (Ext.refl _) (rfl))
          have r8 := (hρ (.tmp 8)).trans x8
          simp [execOp, go_sem, r8]
         |1, _ =>
          refine so rfl ?_
          intro fb wi hx hb hd K hK
          have x98 : fb.eval (.tmp 98) = .pointer (some ⟨T + 1, 1, none⟩) := hd 0 98 rfl (by kernel_rfl)
          have cf0 := (HGr.out.ext hx).cell 1
          simp only [List.getElem?_cons_zero, List.getElem?_cons_succ] at cf0
          refine step_valR (wanted_all rfl) (v := .slice (some ⟨gE, 0, none⟩) 2 cE) (w' := wi) (fun ρ hρ hc => ?_) (hK _ _ (Ext.refl _) (rfl))
          have r98 := (hρ (.tmp 98)).trans x98
          simp [execOp, go_sem, r98, cf0]
         |2, _ =>
          refine so rfl ?_
          intro fb wi hx hb hd K hK
          have x9 : fb.eval (.tmp 9) = .int .i64 0 := hb 9 (by kernel_rfl)
          refine step_valR (wanted_all rfl) (v := .int .i64 0) (w' := wi) (fun ρ hρ hc => ?_) (hK _ _ (Ext.refl _) (rfl))
          have r9 := (hρ (.tmp 9)).trans x9
          simp [execOp, go_sem, r9]
         |3, _ =>
          refine so rfl ?_
          intro fb wi hx hb hd K hK
          have x99 : fb.eval (.tmp 99) = .slice (some ⟨gE, 0, none⟩) 2 cE := hd 1 99 rfl (by kernel_rfl)
          have x100 : fb.eval (.tmp 100) = .int .i64 0 := hd 2 100 rfl (by kernel_rfl)
          refine step_valR (wanted_all rfl) (v := .pointer (some ⟨gE, 0, none⟩)) (w' := wi) (fun ρ hρ hc => ?_) (hK _ _ (Ext.refl _) (rfl))
          have r99 := (hρ (.tmp 99)).trans x99
          have r100 := (hρ (.tmp 100)).trans x100
          simp [execOp, go_sem, r99, r100]
         |4, _ =>
          refine so rfl ?_
          intro fb wi hx hb hd K hK
          have x101 : fb.eval (.tmp 101) = .pointer (some ⟨gE, 0, none⟩) := hd 3 101 rfl (by kernel_rfl)
          refine step_valR (wanted_all rfl) (v := .pointer (some ⟨gE, 1, none⟩)) (w' := wi) (fun ρ hρ hc => ?_) (hK _ _ (Ext.refl _) (rfl))
          have r101 := (hρ (.tmp 101)).trans x101
          simp [execOp, go_sem, r101]
         |5, _ =>
          refine so rfl ?_
          intro fb wi hx hb hd K hK
          have x102 : fb.eval (.tmp 102) = .pointer (some ⟨gE, 1, none⟩) := hd 4 102 rfl (by kernel_rfl)
          have q0 : wi.cell? ⟨gE, 1, none⟩ = some (.slice (some ⟨ga, 0, none⟩) nL ca) := (HEr.out.ext hx).cell 1
          refine step_valR (wanted_all rfl) (v := .slice (some ⟨ga, 0, none⟩) nL ca) (w' := wi) (fun ρ hρ hc => ?_) (hK _ _ (Ext.refl _) (rfl))
          have r102 := (hρ (.tmp 102)).trans x102
          simp [execOp, go_sem, r102, q0]
         |6, _ =>
          refine so rfl ?_
          intro fb wi hx hb hd K hK
          have x10 : fb.eval (.tmp 10) = .int .i64 (j : Int) := hb 10 (by kernel_rfl)
          refine step_valR (wanted_all rfl) (v := .int .i64 (j : Int)) (w' := wi) (fun ρ hρ hc => ?_) (hK _ _ (Ext.refl _) (rfl))
          have r10 := (hρ (.tmp 10)).trans x10
          simp [execOp, go_sem, r10]
         |7, _ =>
          refine so rfl ?_
          intro fb wi hx hb hd K hK
          have x11 : fb.eval (.tmp 11) = .pointer (some ⟨P, 0, none⟩) := hb 11 (by kernel_rfl)
          refine step_valR (wanted_all rfl) (v := .pointer (some ⟨P, 0, none⟩)) (w' := wi) (fun ρ hρ hc => ?_) (hK _ _ (Ext.refl _) (rfl))
          have r11 := (hρ (.tmp 11)).trans x11
          simp [execOp, go_sem, r11]
         |8, _ =>
          refine so rfl ?_
          intro fb wi hx hb hd K hK
          have x105 : fb.eval (.tmp 105) = .pointer (some ⟨P, 0, none⟩) := hd 7 105 rfl (by kernel_rfl)
          have cf0 := (HPc.out.ext hx).cell 0
          simp only [List.getElem?_cons_zero] at cf0
          refine step_valR (wanted_all rfl) (v := .int .i64 vx) (w' := wi) (fun ρ hρ hc => ?_) (hK _ _ (Ext.refl _) (rfl))
          have r105 := (hρ (.tmp 105)).trans x105
          simp [execOp, go_sem, r105, cf0]
         |9, _ =>
          refine so rfl ?_
          intro fb wi hx hb hd K hK
          have x1 : fb.eval (.tmp 1) = .pointer (some ⟨w.heap.size, 0, none⟩) := hb 1 (by kernel_rfl)
          refine step_valR (wanted_all rfl) (v := .pointer (some ⟨w.heap.size, 7, none⟩)) (w' := wi) (fun ρ hρ hc => ?_) (hK _ _ (Ext.refl _) (rfl))
          have r1 := (hρ (.tmp 1)).trans x1
          simp [execOp, go_sem, r1]
         |10, _ =>
          refine so rfl ?_
          intro fb wi hx hb hd K hK
          have x107 : fb.eval (.tmp 107) = .pointer (some ⟨w.heap.size, 7, none⟩) := hd 9 107 rfl (by kernel_rfl)
          refine step_valR (wanted_all rfl) (v := .pointer (some ⟨w.heap.size, 7, none⟩)) (w' := wi) (fun ρ hρ hc => ?_) (hK _ _ (Ext.refl _) (rfl))
          have r107 := (hρ (.tmp 107)).trans x107
          simp [execOp, go_sem, r107]
         |11, _ =>
          refine so rfl ?_
          intro fb wi hx hb hd K hK
          have x108 : fb.eval (.tmp 108) = .pointer (some ⟨w.heap.size, 7, none⟩) := hd 10 108 rfl (by kernel_rfl)
          have cf0 := (HJr.out.ext hx).cell 7
          simp only [List.getElem?_cons_zero, List.getElem?_cons_succ] at cf0
          refine step_valR (wanted_all rfl) (v := .int .i64 mx) (w' := wi) (fun ρ hρ hc => ?_) (hK _ _ (Ext.refl _) (rfl))
          have r108 := (hρ (.tmp 108)).trans x108
          simp [execOp, go_sem, r108, cf0]
         |12, _ =>
          refine so rfl ?_
          intro fb wi hx hb hd K hK
          have x106 : fb.eval (.tmp 106) = .int .i64 vx := hd 8 106 rfl (by kernel_rfl)
          have x109 : fb.eval (.tmp 109) = .int .i64 mx := hd 11 109 rfl (by kernel_rfl)
          refine step_valR (wanted_all rfl) (v := .int .i64 (IntKind.i64.wrap (vx + mx))) (w' := wi) (fun ρ hρ hc => ?_) (hK _ _ (Ext.refl _) (rfl))
          have r106 := (hρ (.tmp 106)).trans x106
          have r109 := (hρ (.tmp 109)).trans x109
          simp [execOp, go_sem, r106, r109]
         |13, _ =>
          refine so rfl ?_
          intro fb wi hx hb hd K hK
          have x11 : fb.eval (.tmp 11) = .pointer (some ⟨P, 0, none⟩) := hb 11 (by kernel_rfl)
          refine step_valR (wanted_all rfl) (v := .pointer (some ⟨P, 1, none⟩)) (w' := wi) (fun ρ hρ hc => ?_) (hK _ _ (Ext.refl _) (rfl))
          have r11 := (hρ (.tmp 11)).trans x11
          simp [execOp, go_sem, r11]
         |14, _ =>
          refine so rfl ?_
          intro fb wi hx hb hd K hK
          have x111 : fb.eval (.tmp 111) = .pointer (some ⟨P, 1, none⟩) := hd 13 111 rfl (by kernel_rfl)
          have cf0 := (HPc.out.ext hx).cell 1
          simp only [List.getElem?_cons_zero, List.getElem?_cons_succ] at cf0
          refine step_valR (wanted_all rfl) (v := .int .i64 vy) (w' := wi) (fun ρ hρ hc => ?_) (hK _ _ (Ext.refl _) (rfl))
          have r111 := (hρ (.tmp 111)).trans x111
          simp [execOp, go_sem, r111, cf0]
         |15, _ =>
          refine so rfl ?_
          intro fb wi hx hb hd K hK
          have x1 : fb.eval (.tmp 1) = .pointer (some ⟨w.heap.size, 0, none⟩) := hb 1 (by kernel_rfl)
          refine step_valR (wanted_all rfl) (v := .pointer (some ⟨w.heap.size, 7, none⟩)) (w' := wi) (fun ρ hρ hc => ?_) (hK _ _ (Ext.refl _) (rfl))
          have r1 := (hρ (.tmp 1)).trans x1
          simp [execOp, go_sem, r1]
         |16, _ =>
          refine so rfl ?_
          intro fb wi hx hb hd K hK
          have x113 : fb.eval (.tmp 113) = .pointer (some ⟨w.heap.size, 7, none⟩) := hd 15 113 rfl (by kernel_rfl)
          refine step_valR (wanted_all rfl) (v := .pointer (some ⟨w.heap.size, 8, none⟩)) (w' := wi) (fun ρ hρ hc => ?_) (hK _ _ (Ext.refl _) (rfl))
          have r113 := (hρ (.tmp 113)).trans x113
          simp [execOp, go_sem, r113]
         |17, _ =>
          refine so rfl ?_
          intro fb wi hx hb hd K hK
          have x114 : fb.eval (.tmp 114) = .pointer (some ⟨w.heap.size, 8, none⟩) := hd 16 114 rfl (by kernel_rfl)
          have cf0 := (HJr.out.ext hx).cell 8
          simp only [List.getElem?_cons_zero, List.getElem?_cons_succ] at cf0
          refine step_valR (wanted_all rfl) (v := .int .i64 my) (w' := wi) (fun ρ hρ hc => ?_) (hK _ _ (Ext.refl _) (rfl))
          have r114 := (hρ (.tmp 114)).trans x114
          simp [execOp, go_sem, r114, cf0]
         |18, _ =>
          refine so rfl ?_
          intro fb wi hx hb hd K hK
          have x112 : fb.eval (.tmp 112) = .int .i64 vy := hd 14 112 rfl (by kernel_rfl)
          have x115 : fb.eval (.tmp 115) = .int .i64 my := hd 17 115 rfl (by kernel_rfl)
          refine step_valR (wanted_all rfl) (v := .int .i64 (IntKind.i64.wrap (vy + my))) (w' := wi) (fun ρ hρ hc => ?_) (hK _ _ (Ext.refl _) (rfl))
          have r112 := (hρ (.tmp 112)).trans x112
          have r115 := (hρ (.tmp 115)).trans x115
          simp [execOp, go_sem, r112, r115]
         |19, _ =>
          refine so rfl ?_
          intro fb wi hx hb hd K hK
          have x110 : fb.eval (.tmp 110) = .int .i64 (IntKind.i64.wrap (vx + mx)) := hd 12 110 rfl (by kernel_rfl)
          have x116 : fb.eval (.tmp 116) = .int .i64 (IntKind.i64.wrap (vy + my)) := hd 18 116 rfl (by kernel_rfl)
          refine step_valR (wanted_all rfl) (v := .agg #[.int .i64 (IntKind.i64.wrap (vx + mx)), .int .i64 (IntKind.i64.wrap (vy + my))]) (w' := wi) (fun ρ hρ hc => ?_) (hK _ _ (Ext.refl _) (rfl))
          have r110 := (hρ (.tmp 110)).trans x110
          have r116 := (hρ (.tmp 116)).trans x116
          simp [execOp, go_sem, r110, r116]
         |n + 20, hn => exact absurd hn (by omega)
        ·skip
         have t103 : Fx (.slice (some ⟨ga, 0, none⟩) nL ca) (xs 5) w1 := hT 5 (by decide)
         have t104 : Fx (.int .i64 (j : Int)) (xs 6) w1 := hT 6 (by decide)
         have t117 : Fx (.agg #[.int .i64 (IntKind.i64.wrap (vx + mx)), .int .i64 (IntKind.i64.wrap (vy + my))]) (xs 19) w1 := hT 19 (by decide)
         simp only [frOf, putAll, List.drop_succ_cons, List.drop_zero, List.setIfInBounds_toArray, List.set_cons_succ, List.set_cons_zero, Nat.zero_add, Nat.reduceAdd]
         clear t103 t104 t117
         have h5 : xs 5 = .slice (some ⟨ga, 0, none⟩) nL ca := hT 5 (by decide)
         have h6 : xs 6 = .int .i64 (j : Int) := hT 6 (by decide)
         have h19 : xs 19 = .agg #[.int .i64 (IntKind.i64.wrap (vx + mx)), .int .i64 (IntKind.i64.wrap (vy + my))] := hT 19 (by decide)
         rw [h5, h6, h19]
         have c0 := hx.cell HCr.out.1
         have c1 := hx.cell HCr.out.2
         have f0 := hx.frz HCr.out.1 HFr.out.1
         have f1 := hx.frz HCr.out.2 HFr.out.2
         have HAx := Lib.hid (HAr.out.ext hx); have HBx := Lib.hid (HBr.out.ext hx); have HKx := Lib.hid (HKr.out.trans (hx.kept _))
         clear hT h5 h6 h19 hx
         go_wp2_with fail
         go_roundw
         case rel =>
          refine ⟨j + 1, by omega, by go_num, ?_, ?_, ?_⟩
          ·have h := pair_set HAx.out hjm (IntKind.i64.wrap (vx + mx), IntKind.i64.wrap (vy + my))
           rw [← HMV.out, mixS_succ (f := fun p => moveS (mx, my) (gS M0 p)) hjM, HMV.out] at h
           simp only [IntWalk.i64_left] at h
           exact h
          ·exact (HBx.out.other (by simp only; omega) _).other (by simp only; omega) _
          ·exact (HKx.out.set (.inr (by simp)) _).set (.inr (by simp)) _
         case measure => simp [intOf]; omega
       ·obtain rfl : nL = j := by omega
        have hmm : mixS (fun p => moveS (mx, my) (gS M0 p)) M0 nL = M0.map (moveS (mx, my)) := by
         have h := mixS_map (f := moveS (mx, my)) (cs := M0) (L := M0) rfl
         rw [HL0.out] at h
         exact h
        rw [hmm] at HA
        have HA2 := Lib.hid HA.out
        clear HA hmm
        go_wp2_with fail
        go_roundw
        case rel => exact ⟨0 + 1, by omega, by go_num, by rw [if_pos (by omega)]; exact HA2.out, by rw [if_neg (by omega)]; exact HB.out, HKP.out⟩
        case measure => simp [intOf]
     ·rw [if_pos (by omega)] at ha
      rw [if_neg (by omega)] at hb
      have HA := Lib.hid ha; have HB := Lib.hid hb; have HKP := Lib.hid hkp
      clear ha hb hkp
      obtain ⟨wA, rfl⟩ : ∃ wA : World, wA = wr := ⟨_, rfl⟩
      have HGA := Lib.hid (HKP.out.blk HG11.out (by have := HNE.out; omega)); have HEAr := Lib.hid (HKP.out.blk HBE11.out (by have := HNE.out; omega)); have HJA := Lib.hid (HKP.out.blk HJ11.out (by have := HNE.out; omega))
      obtain ⟨p0, p1, p2, p3, p4, p5, p6⟩ := blk7 HGA.out
      go_wp2_with fail
      clear p0 p1 p2 p3 p4 p5 p6
      go_loopw [10] (fun i wr => ∃ (j : Nat), j ≤ 3 ∧ i = .int .i64 j ∧ Blk 49 wr gb (scells (mixS (fun p => moveS (mx, my) (gS M1 p)) M1 j) ++ Rb) ∧ Blk 49 wr ga (scells (M0.map (moveS (mx, my))) ++ Ra) ∧ Kept (fun b => b = ga ∨ b = gb) W11 wr) (fun i _ => 3 - (intOf i).toNat)
      case atStart => exact ⟨0, Nat.zero_le _, rfl, by rw [mixS_zero]; exact HB.out, HA.out, HKP.out⟩
      case round =>
       clear HA HB HGA HEAr HJA HKP
       obtain ⟨j, hj, rfl, ha, hb, hkp⟩ := hrel
       have HA := Lib.hid ha; have HB := Lib.hid hb; have HKP := Lib.hid hkp
       clear ha hb hkp
       obtain ⟨wB, rfl⟩ : ∃ wB : World, wB = wr := ⟨_, rfl⟩
       have HGB := Lib.hid (HKP.out.blk HG11.out (by have := HNE.out; omega)); have HEB := Lib.hid (HKP.out.blk HBE11.out (by have := HNE.out; omega)); have HJB := Lib.hid (HKP.out.blk HJ11.out (by have := HNE.out; omega))
       obtain ⟨p0, p1, p2, p3, p4, p5, p6⟩ := blk7 HGB.out
       have e1 : wB.cell? ⟨gE, 2 * 1 + 1, none⟩ = some (.slice (some ⟨gb, 0, none⟩) 3 cb) := HEB.out.cell (2 * 1 + 1)
       simp only [Nat.mul_zero, Nat.zero_add, Nat.mul_one, Nat.reduceAdd] at e1
       by_cases hlt : j < 3
       ·have hjM : j < M1.length := by rw [HL1.out]; exact hlt
        have hjm : j < (mixS (fun p => moveS (mx, my) (gS M1 p)) M1 j).length := by rw [mixS_len]; exact hjM
        obtain ⟨c0, c1, f0, f1⟩ := pair_cells HA.out hjm
        obtain ⟨vx, hvx⟩ : ∃ z, z = (gS M1 j).1 := ⟨_, rfl⟩
        obtain ⟨vy, hvy⟩ : ∃ z, z = (gS M1 j).2 := ⟨_, rfl⟩
        rw [mixS_get hjM, if_neg (by omega), ← hvx] at c0
        rw [mixS_get hjM, if_neg (by omega), ← hvy] at c1
        have HMV : Hid (moveS (mx, my) (gS M1 j) = (IntKind.i64.wrap (vx + mx), IntKind.i64.wrap (vy + my))) := by show _ = _; rw [hvx, hvy]; unfold moveS; simp only [IntWalk.i64_left]
        have HC := Lib.hid (show wB.cell? ⟨gb, j * 2, none⟩ = some (.int .i64 vx) ∧ wB.cell? ⟨gb, j * 2 + 1, none⟩ = some (.int .i64 vy) from ⟨c0, c1⟩)
        have HF := Lib.hid (show wB.frozen? ⟨gb, j * 2, none⟩ = false ∧ wB.frozen? ⟨gb, j * 2 + 1, none⟩ = false from ⟨f0, f1⟩)
        clear hvx hvy f0 f1
        have hjn : (j : Int) < (3 : Int) := by omega
        go_upto_region 19 with fail
        refine wp_at fun wS hwS => ?_
        have hxS : Ext wB wS := by rw [hwS]; exact (Ext.refl _).alloc _
        have HPc : Hid (Blk 49 wS wB.heap.size [.int .i64 vx, .int .i64 vy]) := by show Blk _ _ _ _; rw [hwS]; exact Blk.new' rfl
        obtain ⟨P, hP⟩ : ∃ P, P = wB.heap.size := ⟨_, rfl⟩
        rw [← hP] at HPc ⊢
        have HGr := Lib.hid (HGB.out.ext hxS); have HEr := Lib.hid (HEB.out.ext hxS); have HJr := Lib.hid (HJB.out.ext hxS)
        have HAr := Lib.hid (HA.out.ext hxS); have HBr := Lib.hid (HB.out.ext hxS); have HKr := Lib.hid (HKP.out.trans (hxS.kept _))
        have HCr := Lib.hid (show wS.cell? ⟨gb, j * 2, none⟩ = some (.int .i64 vx) ∧ wS.cell? ⟨gb, j * 2 + 1, none⟩ = some (.int .i64 vy) from ⟨hxS.cell HC.out.1, hxS.cell HC.out.2⟩)
        have HFr := Lib.hid (show wS.frozen? ⟨gb, j * 2, none⟩ = false ∧ wS.frozen? ⟨gb, j * 2 + 1, none⟩ = false from ⟨hxS.frz HC.out.1 HF.out.1, hxS.frz HC.out.2 HF.out.2⟩)
        clear hwS hxS hP p0 p1 p2 p3 p4 p5 p6 e1 c0 c1 HC HF HGB HEB HJB HA HB HKP
        refine region_slotsT (m := 2) (l := 20) (N := 167) (W0 := wS) [98, 99, 100, 101, 102, 103, 104, 105, 106, 107, 108, 109, 110, 111, 112, 113, 114, 115, 116, 117] [Fx (.pointer (some ⟨T + 1, 1, none⟩)), Fx (.slice (some ⟨gE, 0, none⟩) 2 cE), Fx (.int .i64 1), Fx (.pointer (some ⟨gE, 2, none⟩)), Fx (.pointer (some ⟨gE, 3, none⟩)), Fx (.slice (some ⟨gb, 0, none⟩) 3 cb), Fx (.int .i64 (j : Int)), Fx (.pointer (some ⟨P, 0, none⟩)), Fx (.int .i64 vx), Fx (.pointer (some ⟨w.heap.size, 7, none⟩)), Fx (.pointer (some ⟨w.heap.size, 7, none⟩)), Fx (.int .i64 mx), Fx (.int .i64 (IntKind.i64.wrap (vx + mx))), Fx (.pointer (some ⟨P, 1, none⟩)), Fx (.int .i64 vy), Fx (.pointer (some ⟨w.heap.size, 7, none⟩)), Fx (.pointer (some ⟨w.heap.size, 8, none⟩)), Fx (.int .i64 my), Fx (.int .i64 (IntKind.i64.wrap (vy + my))), Fx (.agg #[.int .i64 (IntKind.i64.wrap (vx + mx)), .int .i64 (IntKind.i64.wrap (vy + my))])] (by kernel_rfl) (by omega) (by kernel_rfl) (by kernel_rfl) (by kernel_rfl) (Ext.refl _) ?kp (fun i hi => ?_) (fun xs w1 hx hT => ?_)
        case kp => exact ⟨Fx.kp _, Fx.kp _, Fx.kp _, Fx.kp _, Fx.kp _, Fx.kp _, Fx.kp _, Fx.kp _, Fx.kp _, Fx.kp _, Fx.kp _, Fx.kp _, Fx.kp _, Fx.kp _, Fx.kp _, Fx.kp _, Fx.kp _, Fx.kp _, Fx.kp _, Fx.kp _, trivial⟩
        ·match i, hi with
         |0, _ =>
          refine so rfl ?_
          intro fb wi hx hb hd K hK
          have x8 : fb.eval (.tmp 8) = .pointer (some ⟨T + 1, 0, none⟩) := hb 8 (by kernel_rfl)
          refine step_valR (wanted_all rfl) (v := .pointer (some ⟨T + 1, 1, none⟩)) (w' := wi) (fun ρ hρ hc => ?_) (hK _ _ (Ext.refl _) (rfl))
          have r8 := (hρ (.tmp 8)).trans x8
          simp [execOp, go_sem, r8]
         |1, _ =>
          refine so rfl ?_
          intro fb wi hx hb hd K hK
          have x98 : fb.eval (.tmp 98) = .pointer (some ⟨T + 1, 1, none⟩) := hd 0 98 rfl (by kernel_rfl)
          have cf0 := (HGr.out.ext hx).cell 1
          simp only [List.getElem?_cons_zero, List.getElem?_cons_succ] at cf0
          refine step_valR (wanted_all rfl) (v := .slice (some ⟨gE, 0, none⟩) 2 cE) (w' := wi) (fun ρ hρ hc => ?_) (hK _ _ (Ext.refl _) (rfl))
          have r98 := (hρ (.tmp 98)).trans x98
          simp [execOp, go_sem, r98, cf0]
         |2, _ =>
          refine so rfl ?_
          intro fb wi hx hb hd K hK
          have x9 : fb.eval (.tmp 9) = .int .i64 1 := hb 9 (by kernel_rfl)
          refine step_valR (wanted_all rfl) (v := .int .i64 1) (w' := wi) (fun ρ hρ hc => ?_) (hK _ _ (Ext.refl _) (rfl))
          have r9 := (hρ (.tmp 9)).trans x9
          simp [execOp, go_sem, r9]
         |3, _ =>
          refine so rfl ?_
          intro fb wi hx hb hd K hK
          have x99 : fb.eval (.tmp 99) = .slice (some ⟨gE, 0, none⟩) 2 cE := hd 1 99 rfl (by kernel_rfl)
          have x100 : fb.eval (.tmp 100) = .int .i64 1 := hd 2 100 rfl (by kernel_rfl)
          refine step_valR (wanted_all rfl) (v := .pointer (some ⟨gE, 2, none⟩)) (w' := wi) (fun ρ hρ hc => ?_) (hK _ _ (Ext.refl _) (rfl))
          have r99 := (hρ (.tmp 99)).trans x99
          have r100 := (hρ (.tmp 100)).trans x100
          simp [execOp, go_sem, r99, r100]
         |4, _ =>
          refine so rfl ?_
          intro fb wi hx hb hd K hK
          have x101 : fb.eval (.tmp 101) = .pointer (some ⟨gE, 2, none⟩) := hd 3 101 rfl (by kernel_rfl)
          refine step_valR (wanted_all rfl) (v := .pointer (some ⟨gE, 3, none⟩)) (w' := wi) (fun ρ hρ hc => ?_) (hK _ _ (Ext.refl _) (rfl))
          have r101 := (hρ (.tmp 101)).trans x101
          simp [execOp, go_sem, r101]
         |5, _ =>
          refine so rfl ?_
          intro fb wi hx hb hd K hK
          have x102 : fb.eval (.tmp 102) = .pointer (some ⟨gE, 3, none⟩) := hd 4 102 rfl (by kernel_rfl)
          have q0 : wi.cell? ⟨gE, 3, none⟩ = some (.slice (some ⟨gb, 0, none⟩) 3 cb) := (HEr.out.ext hx).cell 3
          refine step_valR (wanted_all rfl) (v := .slice (some ⟨gb, 0, none⟩) 3 cb) (w' := wi) (fun ρ hρ hc => ?_) (hK _ _ (Ext.refl _) (rfl))
          have r102 := (hρ (.tmp 102)).trans x102
          simp [execOp, go_sem, r102, q0]
         |6, _ =>
          refine so rfl ?_
          intro fb wi hx hb hd K hK
          have x10 : fb.eval (.tmp 10) = .int .i64 (j : Int) := hb 10 (by kernel_rfl)
          refine step_valR (wanted_all rfl) (v := .int .i64 (j : Int)) (w' := wi) (fun ρ hρ hc => ?_) (hK _ _ (Ext.refl _) (rfl))
          have r10 := (hρ (.tmp 10)).trans x10
          simp [execOp, go_sem, r10]
         |7, _ =>
          refine so rfl ?_
          intro fb wi hx hb hd K hK
          have x11 : fb.eval (.tmp 11) = .pointer (some ⟨P, 0, none⟩) := hb 11 (by kernel_rfl)
          refine step_valR (wanted_all rfl) (v := .pointer (some ⟨P, 0, none⟩)) (w' := wi) (fun ρ hρ hc => ?_) (hK _ _ (Ext.refl _) (rfl))
          have r11 := (hρ (.tmp 11)).trans x11
          simp [execOp, go_sem, r11]
         |8, _ =>
          refine so rfl ?_
          intro fb wi hx hb hd K hK
          have x105 : fb.eval (.tmp 105) = .pointer (some ⟨P, 0, none⟩) := hd 7 105 rfl (by kernel_rfl)
          have cf0 := (HPc.out.ext hx).cell 0
          simp only [List.getElem?_cons_zero] at cf0
          refine step_valR (wanted_all rfl) (v := .int .i64 vx) (w' := wi) (fun ρ hρ hc => ?_) (hK _ _ (Ext.refl _) (rfl))
          have r105 := (hρ (.tmp 105)).trans x105
          simp [execOp, go_sem, r105, cf0]
         |9, _ =>
          refine so rfl ?_
          intro fb wi hx hb hd K hK
          have x1 : fb.eval (.tmp 1) = .pointer (some ⟨w.heap.size, 0, none⟩) := hb 1 (by kernel_rfl)
          refine step_valR (wanted_all rfl) (v := .pointer (some ⟨w.heap.size, 7, none⟩)) (w' := wi) (fun ρ hρ hc => ?_) (hK _ _ (Ext.refl _) (rfl))
          have r1 := (hρ (.tmp 1)).trans x1
          simp [execOp, go_sem, r1]
         |10, _ =>
          refine so rfl ?_
          intro fb wi hx hb hd K hK
          have x107 : fb.eval (.tmp 107) = .pointer (some ⟨w.heap.size, 7, none⟩) := hd 9 107 rfl (by kernel_rfl)
          refine step_valR (wanted_all rfl) (v := .pointer (some ⟨w.heap.size, 7, none⟩)) (w' := wi) (fun ρ hρ hc => ?_) (hK _ _ (Ext.refl _) (rfl))
          have r107 := (hρ (.tmp 107)).trans x107
          simp [execOp, go_sem, r107]
         |11, _ =>
          refine so rfl ?_
          intro fb wi hx hb hd K hK
          have x108 : fb.eval (.tmp 108) = .pointer (some ⟨w.heap.size, 7, none⟩) := hd 10 108 rfl (by kernel_rfl)
          have cf0 := (HJr.out.ext hx).cell 7
          simp only [List.getElem?_cons_zero, List.getElem?_cons_succ] at cf0
          refine step_valR (wanted_all rfl) (v := .int .i64 mx) (w' := wi) (fun ρ hρ hc => ?_) (hK _ _ (Ext.refl _) (rfl))
          have r108 := (hρ (.tmp 108)).trans x108
          simp [execOp, go_sem, r108, cf0]
         |12, _ =>
          refine so rfl ?_
          intro fb wi hx hb hd K hK
          have x106 : fb.eval (.tmp 106) = .int .i64 vx := hd 8 106 rfl (by kernel_rfl)
          have x109 : fb.eval (.tmp 109) = .int .i64 mx := hd 11 109 rfl (by kernel_rfl)
          refine step_valR (wanted_all rfl) (v := .int .i64 (IntKind.i64.wrap (vx + mx))) (w' := wi) (fun ρ hρ hc => ?_) (hK _ _ (Ext.refl _) (rfl))
          have r106 := (hρ (.tmp 106)).trans x106
          have r109 := (hρ (.tmp 109)).trans x109
          simp [execOp, go_sem, r106, r109]
         |13, _ =>
          refine so rfl ?_
          intro fb wi hx hb hd K hK
          have x11 : fb.eval (.tmp 11) = .pointer (some ⟨P, 0, none⟩) := hb 11 (by kernel_rfl)
          refine step_valR (wanted_all rfl) (v := .pointer (some ⟨P, 1, none⟩)) (w' := wi) (fun ρ hρ hc => ?_) (hK _ _ (Ext.refl _) (rfl))
          have r11 := (hρ (.tmp 11)).trans x11
          simp [execOp, go_sem, r11]
         |14, _ =>
          refine so rfl ?_
          intro fb wi hx hb hd K hK
          have x111 : fb.eval (.tmp 111) = .pointer (some ⟨P, 1, none⟩) := hd 13 111 rfl (by kernel_rfl)
          have cf0 := (HPc.out.ext hx).cell 1
          simp only [List.getElem?_cons_zero, List.getElem?_cons_succ] at cf0
          refine step_valR (wanted_all rfl) (v := .int .i64 vy) (w' := wi) (fun ρ hρ hc => ?_) (hK _ _ (Ext.refl _) (rfl))
          have r111 := (hρ (.tmp 111)).trans x111
          simp [execOp, go_sem, r111, cf0]
         |15, _ =>
          refine so rfl ?_
          intro fb wi hx hb hd K hK
          have x1 : fb.eval (.tmp 1) = .pointer (some ⟨w.heap.size, 0, none⟩) := hb 1 (by kernel_rfl)
          refine step_valR (wanted_all rfl) (v := .pointer (some ⟨w.heap.size, 7, none⟩)) (w' := wi) (fun ρ hρ hc => ?_) (hK _ _ (Ext.refl _) (rfl))
          have r1 := (hρ (.tmp 1)).trans x1
          simp [execOp, go_sem, r1]
         |16, _ =>
          refine so rfl ?_
          intro fb wi hx hb hd K hK
          have x113 : fb.eval (.tmp 113) = .pointer (some ⟨w.heap.size, 7, none⟩) := hd 15 113 rfl (by kernel_rfl)
          refine step_valR (wanted_all rfl) (v := .pointer (some ⟨w.heap.size, 8, none⟩)) (w' := wi) (fun ρ hρ hc => ?_) (hK _ _ (Ext.refl _) (rfl))
          have r113 := (hρ (.tmp 113)).trans x113
          simp [execOp, go_sem, r113]
         |17, _ =>
          refine so rfl ?_
          intro fb wi hx hb hd K hK
          have x114 : fb.eval (.tmp 114) = .pointer (some ⟨w.heap.size, 8, none⟩) := hd 16 114 rfl (by kernel_rfl)
          have cf0 := (HJr.out.ext hx).cell 8
          simp only [List.getElem?_cons_zero, List.getElem?_cons_succ] at cf0
          refine step_valR (wanted_all rfl) (v := .int .i64 my) (w' := wi) (fun ρ hρ hc => ?_) (hK _ _ (Ext.refl _) (rfl))
          have r114 := (hρ (.tmp 114)).trans x114
          simp [execOp, go_sem, r114, cf0]
         |18, _ =>
          refine so rfl ?_
          intro fb wi hx hb hd K hK
          have x112 : fb.eval (.tmp 112) = .int .i64 vy := hd 14 112 rfl (by kernel_rfl)
          have x115 : fb.eval (.tmp 115) = .int .i64 my := hd 17 115 rfl (by kernel_rfl)
          refine step_valR (wanted_all rfl) (v := .int .i64 (IntKind.i64.wrap (vy + my))) (w' := wi) (fun ρ hρ hc => ?_) (hK _ _ (Ext.refl _) (rfl))
          have r112 := (hρ (.tmp 112)).trans x112
          have r115 := (hρ (.tmp 115)).trans x115
          simp [execOp, go_sem, r112, r115]
         |19, _ =>
          refine so rfl ?_
          intro fb wi hx hb hd K hK
          have x110 : fb.eval (.tmp 110) = .int .i64 (IntKind.i64.wrap (vx + mx)) := hd 12 110 rfl (by kernel_rfl)
          have x116 : fb.eval (.tmp 116) = .int .i64 (IntKind.i64.wrap (vy + my)) := hd 18 116 rfl (by kernel_rfl)
          refine step_valR (wanted_all rfl) (v := .agg #[.int .i64 (IntKind.i64.wrap (vx + mx)), .int .i64 (IntKind.i64.wrap (vy + my))]) (w' := wi) (fun ρ hρ hc => ?_) (hK _ _ (Ext.refl _) (rfl))
          have r110 := (hρ (.tmp 110)).trans x110
          have r116 := (hρ (.tmp 116)).trans x116
          simp [execOp, go_sem, r110, r116]
         |n + 20, hn => exact absurd hn (by omega)
        ·skip
         have t103 : Fx (.slice (some ⟨gb, 0, none⟩) 3 cb) (xs 5) w1 := hT 5 (by decide)
         have t104 : Fx (.int .i64 (j : Int)) (xs 6) w1 := hT 6 (by decide)
         have t117 : Fx (.agg #[.int .i64 (IntKind.i64.wrap (vx + mx)), .int .i64 (IntKind.i64.wrap (vy + my))]) (xs 19) w1 := hT 19 (by decide)
         simp only [frOf, putAll, List.drop_succ_cons, List.drop_zero, List.setIfInBounds_toArray, List.set_cons_succ, List.set_cons_zero, Nat.zero_add, Nat.reduceAdd]
         clear t103 t104 t117
         have h5 : xs 5 = .slice (some ⟨gb, 0, none⟩) 3 cb := hT 5 (by decide)
         have h6 : xs 6 = .int .i64 (j : Int) := hT 6 (by decide)
         have h19 : xs 19 = .agg #[.int .i64 (IntKind.i64.wrap (vx + mx)), .int .i64 (IntKind.i64.wrap (vy + my))] := hT 19 (by decide)
         rw [h5, h6, h19]
         have c0 := hx.cell HCr.out.1
         have c1 := hx.cell HCr.out.2
         have f0 := hx.frz HCr.out.1 HFr.out.1
         have f1 := hx.frz HCr.out.2 HFr.out.2
         have HAx := Lib.hid (HAr.out.ext hx); have HBx := Lib.hid (HBr.out.ext hx); have HKx := Lib.hid (HKr.out.trans (hx.kept _))
         clear hT h5 h6 h19 hx
         go_wp2_with fail
         go_roundw
         case rel =>
          refine ⟨j + 1, by omega, by go_num, ?_, ?_, ?_⟩
          ·have h := pair_set HAx.out hjm (IntKind.i64.wrap (vx + mx), IntKind.i64.wrap (vy + my))
           rw [← HMV.out, mixS_succ (f := fun p => moveS (mx, my) (gS M1 p)) hjM, HMV.out] at h
           simp only [IntWalk.i64_left] at h
           exact h
          ·exact (HBx.out.other (by simp only; omega) _).other (by simp only; omega) _
          ·exact (HKx.out.set (.inr (by simp)) _).set (.inr (by simp)) _
         case measure => simp [intOf]; omega
       ·obtain rfl : 3 = j := by omega
        have hmm : mixS (fun p => moveS (mx, my) (gS M1 p)) M1 3 = M1.map (moveS (mx, my)) := by
         have h := mixS_map (f := moveS (mx, my)) (cs := M1) (L := M1) rfl
         rw [HL1.out] at h
         exact h
        rw [hmm] at HA
        have HA2 := Lib.hid HA.out
        clear HA hmm
        go_wp2_with fail
        go_roundw
        case rel => exact ⟨1 + 1, by omega, by go_num, by rw [if_pos (by omega)]; exact HB.out, by rw [if_pos (by omega)]; exact HA2.out, HKP.out⟩
        case measure => simp [intOf]
     ·rw [if_pos (by omega)] at ha hb
      rw [show ((2 : Nat) : Int) = 2 from rfl]
      obtain ⟨wC, rfl⟩ : ∃ wC : World, wC = wr := ⟨_, rfl⟩
      obtain ⟨N0, hN0⟩ : ∃ N, N = M0.map (moveS (mx, my)) := ⟨_, rfl⟩
      obtain ⟨N1, hN1⟩ : ∃ N, N = M1.map (moveS (mx, my)) := ⟨_, rfl⟩
      rw [← hN0] at ha
      rw [← hN1] at hb
      have HN0 := Lib.hid hN0; have HN1 := Lib.hid hN1
      have HA := Lib.hid ha; have HB := Lib.hid hb
      have hX5 : ∀ {b : Nat}, b < W5.heap.size → b ≠ B + 1 + 1 + 1 → b ≠ ga ∧ b ≠ gb ∧ b ≠ T + 1 := fun h1 h2 => by refine ⟨?_, ?_, ?_⟩ <;> omega
      have HGc := Lib.hid (hkp.blk HG11.out (by have := HNE.out; omega)); have HEc := Lib.hid (hkp.blk HBE11.out (by have := HNE.out; omega)); have HJc := Lib.hid (hkp.blk HJ11.out (by have := HNE.out; omega))
      have HPc := Lib.hid (hkp.blk HP11.out (by omega)); have HTc := Lib.hid (hkp.blk HT11.out (by omega))
      have HOc : Hid (OwnT 79 wC W5.heap.size (.slice VA nN vc) NL) := by
       refine own_kept HO11.out hkp (fun b hbb e => ?_)
       rcases e with e | e
       ·subst e; exact own_blk_ne HO11.out HBa11.out (by decide) hbb
       ·subst e; exact own_blk_ne HO11.out HBb11.out (by decide) hbb
      have HXc : Hid (Ext w wC) := hkp.ext HX11.out (fun b e => by omega)
      have hk5c : Kept (fun b => B + 1 + 1 + 1 = b ∨ T + 1 ≤ b) W5 wC := (hx9.trans (HK911.out.mono (fun k _ e => Or.inr (by omega)))).trans (hkp.mono (fun k _ e => Or.inr (by omega)))
      have HK5c := Lib.hid hk5c
      clear ha hb hkp hN0 hN1 HG11 HBE11 HJ11 HP11 HT11 HO11 HX11 HBa11 HBb11 hk5c hx9 HK911
      obtain ⟨⟨c0x, c0y⟩, hc0⟩ : ∃ s, s = applyT false q (sx, sy) := ⟨_, rfl⟩
      obtain ⟨⟨c1x, c1y⟩, hc1'⟩ : ∃ s, s = applyT false q (ex, ey) := ⟨_, rfl⟩
      have HCA := Lib.hid hc0; have HCB := Lib.hid hc1'
      have HAP0 := Lib.hid (fun W => hc0 ▸ rapply_is false q (sx, sy) W)
      have HAP1 := Lib.hid (fun W => hc1' ▸ rapply_is false q (ex, ey) W)
      clear hc0 hc1'
      obtain ⟨p0, p1, p2, p3, p4, p5, p6⟩ := blk7 HGc.out
      go_upto_region 20 with fail
      clear p0 p1 p2 p3 p4 p5 p6
      refine region_slotsT (m := 2) (l := 9) (N := 167) (W0 := wC) [119, 120, 121, 122, 123, 124, 125, 126, 127] [Fx (.agg #[.bool false, .int .i64 q]), Fx (.pointer (some ⟨w.heap.size, 1, none⟩)), Fx (SV (sx, sy)), Fx (SV (c0x, c0y)), Fx (.agg #[.bool false, .int .i64 q]), Fx (.pointer (some ⟨w.heap.size, 3, none⟩)), Fx (SV (ex, ey)), Fx (SV (c1x, c1y)), IsRow 49 (scells [(c0x, c0y), (c1x, c1y)])] (by kernel_rfl) (by omega) (by kernel_rfl) (by kernel_rfl) (by kernel_rfl) (Ext.refl _) ?kp (fun i hi => ?_) (fun xs w1 hx hT => ?_)
      case kp => exact ⟨Fx.kp _, Fx.kp _, Fx.kp _, Fx.kp _, Fx.kp _, Fx.kp _, Fx.kp _, Fx.kp _, IsRow.kp _ _, trivial⟩
      ·match i, hi with
       |0, _ =>
        refine so rfl ?_
        intro fb wi hx hb hd K hK
        have x7 : fb.eval (.tmp 7) = .pointer (some ⟨T, 0, none⟩) := hb 7 (by kernel_rfl)
        obtain ⟨q0, q1⟩ := blk2 (HTc.out.ext hx)
        refine step_valR (wanted_all rfl) (v := .agg #[.bool false, .int .i64 q]) (w' := wi) (fun ρ hρ hc => ?_) (hK _ _ (Ext.refl _) (rfl))
        have r7 := (hρ (.tmp 7)).trans x7
        simp [execOp, go_sem, r7, q0, q1]
       |1, _ =>
        refine so rfl ?_
        intro fb wi hx hb hd K hK
        have x1 : fb.eval (.tmp 1) = .pointer (some ⟨w.heap.size, 0, none⟩) := hb 1 (by kernel_rfl)
        refine step_valR (wanted_all rfl) (v := .pointer (some ⟨w.heap.size, 1, none⟩)) (w' := wi) (fun ρ hρ hc => ?_) (hK _ _ (Ext.refl _) (rfl))
        have r1 := (hρ (.tmp 1)).trans x1
        simp [execOp, go_sem, r1]
       |2, _ =>
        refine so rfl ?_
        intro fb wi hx hb hd K hK
        have x120 : fb.eval (.tmp 120) = .pointer (some ⟨w.heap.size, 1, none⟩) := hd 1 120 rfl (by kernel_rfl)
        have q0 := (HJc.out.ext hx).cell 1; have q1 := (HJc.out.ext hx).cell 2
        simp only [List.getElem?_cons_zero, List.getElem?_cons_succ] at q0 q1
        refine step_valR (wanted_all rfl) (v := SV (sx, sy)) (w' := wi) (fun ρ hρ hc => ?_) (hK _ _ (Ext.refl _) (rfl))
        have r120 := (hρ (.tmp 120)).trans x120
        simp [execOp, go_sem, r120, q0, q1]
       |3, _ =>
        refine so rfl ?_
        intro fb wi hx hb hd K hK
        have x119 : fb.eval (.tmp 119) = .agg #[.bool false, .int .i64 q] := hd 0 119 rfl (by kernel_rfl)
        have x121 : fb.eval (.tmp 121) = SV (sx, sy) := hd 2 121 rfl (by kernel_rfl)
        refine step_callW (wanted_all rfl) 37 [.tmp 119, .tmp 121] #[31, 49] rfl _ Tryz.func37 rfl (by decide +kernel) [.agg #[.bool false, .int .i64 q], SV (sx, sy)] (by simp only [List.map_cons, List.map_nil, x119, x121]) (HAP0.out wi) (fun e w' h => ?_)
        obtain ⟨v, rfl, hv, hx'⟩ := h
        exact ⟨_, rfl, hK _ _ hx' hv⟩
       |4, _ =>
        refine so rfl ?_
        intro fb wi hx hb hd K hK
        have x7 : fb.eval (.tmp 7) = .pointer (some ⟨T, 0, none⟩) := hb 7 (by kernel_rfl)
        obtain ⟨q0, q1⟩ := blk2 (HTc.out.ext hx)
        refine step_valR (wanted_all rfl) (v := .agg #[.bool false, .int .i64 q]) (w' := wi) (fun ρ hρ hc => ?_) (hK _ _ (Ext.refl _) (rfl))
        have r7 := (hρ (.tmp 7)).trans x7
        simp [execOp, go_sem, r7, q0, q1]
       |5, _ =>
        refine so rfl ?_
        intro fb wi hx hb hd K hK
        have x1 : fb.eval (.tmp 1) = .pointer (some ⟨w.heap.size, 0, none⟩) := hb 1 (by kernel_rfl)
        refine step_valR (wanted_all rfl) (v := .pointer (some ⟨w.heap.size, 3, none⟩)) (w' := wi) (fun ρ hρ hc => ?_) (hK _ _ (Ext.refl _) (rfl))
        have r1 := (hρ (.tmp 1)).trans x1
        simp [execOp, go_sem, r1]
       |6, _ =>
        refine so rfl ?_
        intro fb wi hx hb hd K hK
        have x124 : fb.eval (.tmp 124) = .pointer (some ⟨w.heap.size, 3, none⟩) := hd 5 124 rfl (by kernel_rfl)
        have q0 := (HJc.out.ext hx).cell 3; have q1 := (HJc.out.ext hx).cell 4
        simp only [List.getElem?_cons_zero, List.getElem?_cons_succ] at q0 q1
        refine step_valR (wanted_all rfl) (v := SV (ex, ey)) (w' := wi) (fun ρ hρ hc => ?_) (hK _ _ (Ext.refl _) (rfl))
        have r124 := (hρ (.tmp 124)).trans x124
        simp [execOp, go_sem, r124, q0, q1]
       |7, _ =>
        refine so rfl ?_
        intro fb wi hx hb hd K hK
        have x123 : fb.eval (.tmp 123) = .agg #[.bool false, .int .i64 q] := hd 4 123 rfl (by kernel_rfl)
        have x125 : fb.eval (.tmp 125) = SV (ex, ey) := hd 6 125 rfl (by kernel_rfl)
        refine step_callW (wanted_all rfl) 37 [.tmp 123, .tmp 125] #[31, 49] rfl _ Tryz.func37 rfl (by decide +kernel) [.agg #[.bool false, .int .i64 q], SV (ex, ey)] (by simp only [List.map_cons, List.map_nil, x123, x125]) (HAP1.out wi) (fun e w' h => ?_)
        obtain ⟨v, rfl, hv, hx'⟩ := h
        exact ⟨_, rfl, hK _ _ hx' hv⟩
       |8, _ =>
        refine so rfl ?_
        intro fb wi hx hb hd K hK
        have y122 : Fx (SV (c0x, c0y)) (fb.eval (.tmp 122)) wi := hd 3 122 rfl (by kernel_rfl)
        have y126 : Fx (SV (c1x, c1y)) (fb.eval (.tmp 126)) wi := hd 7 126 rfl (by kernel_rfl)
        have x122 : fb.eval (.tmp 122) = SV (c0x, c0y) := y122
        have x126 : fb.eval (.tmp 126) = SV (c1x, c1y) := y126
        refine step_valR (wanted_all rfl) (v := .slice (some ⟨wi.heap.size, 0, none⟩) 2 2) (w' := wi.alloc (.cells (scells [(c0x, c0y), (c1x, c1y)]).toArray 49)) (fun ρ hρ hc => ?_) (hK _ _ ((Ext.refl _).alloc _) (⟨wi.heap.size, rfl, Blk.new' rfl⟩))
        have r122 := (hρ (.tmp 122)).trans x122
        have r126 := (hρ (.tmp 126)).trans x126
        simp [execOp, go_sem, r122, r126, scells]
       |n + 9, hn => exact absurd hn (by omega)
      ·skip
       have t127 : IsRow 49 (scells [(c0x, c0y), (c1x, c1y)]) (xs 8) w1 := hT 8 (by decide)
       simp only [frOf, putAll, List.drop_succ_cons, List.drop_zero, List.setIfInBounds_toArray, List.set_cons_succ, List.set_cons_zero, Nat.zero_add, Nat.reduceAdd]
       have hT8 : IsRow 49 (scells [(c0x, c0y), (c1x, c1y)]) (xs 8) w1 := hT 8 (by decide)
       obtain ⟨gc, hgc, hbc⟩ := hT8
       rw [hgc]
       have HGd := Lib.hid (HGc.out.ext hx); have HBc := Lib.hid hbc; have HXd := Lib.hid hx
       clear hT hgc hbc hx t127
       obtain ⟨p0, p1, p2, p3, p4, p5, p6⟩ := blk7 HGd.out
       have f4 := HGd.out.frozen 4
       go_upto_region 21 with fail
       refine wp_at fun WD hWD => ?_
       have HGD : Hid (Blk 40 WD (T + 1) [.string twoN, .slice (some ⟨gE, 0, none⟩) 2 cE, .int .i64 1, .slice VA nN vc, .slice (some ⟨gc, 0, none⟩) 2 2, .slice (some ⟨B + 1 + 1, 0, none⟩) 2 2, .bool false]) := by show Blk _ _ _ _; rw [hWD]; exact HGd.out.set 4 _
       have hk1 : Kept (fun b => b = T + 1) w1 WD := by rw [hWD]; exact kset (Kept.refl _ _) _ _
       have hkD : Kept (fun b => b = T + 1) wC WD := (HXd.out.kept _).trans hk1
       have hk5D : Kept (fun b => B + 1 + 1 + 1 = b ∨ T + 1 ≤ b) W5 WD := HK5c.out.trans (hkD.mono (fun k _ e => Or.inr (by omega)))
       have HXD : Hid (Ext w WD) := hkD.ext HXc.out (fun b e => by omega)
       have hTw : T + 1 < wC.heap.size := HGc.out.lt
       have hPD : Blk 40 WD (B + 1 + 1 + 1) [.string oneN, .slice (some ⟨B, 0, none⟩) 2 2, .int .i64 1, .slice VA nN vc, .slice (some ⟨B + 1, 0, none⟩) 2 2, .slice (some ⟨B + 1 + 1, 0, none⟩) 2 2, .bool false] := hkD.blk HPc.out (by omega)
       have HPD := Lib.hid hPD
       have hgcl : gc < w1.heap.size := HBc.out.lt
       have HBcD : Hid (Blk 49 WD gc (scells [(c0x, c0y), (c1x, c1y)])) := by
        refine hk1.blk HBc.out (fun e => ?_)
        subst e
        exact HBc.out.ne HGd.out (by decide) rfl
       have hOD : OwnT 79 WD W5.heap.size (.slice VA nN vc) NL := by
        refine own_kept HOc.out hkD (fun b hbb e => ?_)
        subst e
        exact own_blk_ne HOc.out HGc.out (by decide) hbb
       have hn0l : N0.length = nL := by rw [HN0.out, List.length_map, HL0.out]
       have hn1l : N1.length = 3 := by rw [HN1.out, List.length_map, HL1.out]
       have HNL0 := Lib.hid hn0l; have HNL1 := Lib.hid hn1l
       have HPN : Hid (PnB WD B g1 o1 nL c1 g4 gE cE ga ca gb cb gc W5.heap.size VA nN vc L [(lx, ly), (px, py), (fx, fy)] N0 N1 [(sx, sy), (ex, ey)] [(c0x, c0y), (c1x, c1y)] NL) :=
        ⟨hk5D.blk HE5.out (by have := HE5.out.lt; omega), hk5D.blk HC5.out (by have := HC5.out.lt; omega), hk5D.blk HI5.out (by have := HI5.out.lt; omega), ⟨RL, HO1.out, hk5D.blk HBL5.out (by omega)⟩, hk5D.blk HB5.out (by omega), ⟨RE, hkD.blk HEc.out (by have := HNE.out; omega)⟩, ⟨Ra, hkD.blk HA.out (by have := HNE.out; omega)⟩, ⟨Rb, hkD.blk HB.out (by have := HNE.out; omega)⟩, HBcD.out, hOD⟩
       have HJD := Lib.hid (hkD.blk HJc.out (by omega)); have HRD := Lib.hid (hk5D.blk HR5.out (by omega))
       clear hWD p0 p1 p2 p3 p4 p5 p6 f4 hk1 hkD hk5D hPD hOD hn0l hn1l HGd HBc HXd HGc HEc HJc HPc HTc HOc HXc HK5c HA HB HBcD
       obtain ⟨p0, p1, p2, p3, p4, p5, p6⟩ := blk7 HGD.out
       obtain ⟨q0, q1, q2, q3, q4, q5, q6⟩ := blk7 HPD.out
       go_upto_region 22 with fail
       refine wp_at fun WE hWE => ?_
       obtain ⟨D, hD⟩ : ∃ D, D = WD.heap.size := ⟨_, rfl⟩
       have HPS : Hid (Blk 40 WE D [.string oneN, .slice (some ⟨B, 0, none⟩) 2 2, .int .i64 1, .slice VA nN vc, .slice (some ⟨B + 1, 0, none⟩) 2 2, .slice (some ⟨B + 1 + 1, 0, none⟩) 2 2, .bool false, .string twoN, .slice (some ⟨gE, 0, none⟩) 2 cE, .int .i64 1, .slice VA nN vc, .slice (some ⟨gc, 0, none⟩) 2 2, .slice (some ⟨B + 1 + 1, 0, none⟩) 2 2, .bool false]) := by show Blk _ _ _ _; rw [hWE, hD]; exact (Blk.new' rfl).ext ((((Ext.refl _).alloc _).alloc _).alloc _)
       have HUS : Hid (Blk 69 WE (D + 1) [.int .i64 0, .int .i64 1, .bool false, .int .i64 1, .int .i64 1, .bool false]) := by show Blk _ _ _ _; rw [hWE, hD]; exact (Blk.new' (by simp)).ext (((Ext.refl _).alloc _).alloc _)
       have HSE : Hid (Blk 71 WE (D + 1 + 1) [.int .i64 0, .int .i64 0, .int .i64 1, .int .i64 0, .bool false, .int .i64 0]) := by show Blk _ _ _ _; rw [hWE, hD]; exact (Blk.new' (by simp)).ext ((Ext.refl _).alloc _)
       have HST : Hid (Blk 29 WE (D + 1 + 1 + 1) [.string pairN, .slice none 0 0, .slice none 0 0, .slice (some ⟨D, 0, none⟩) 2 2, .slice (some ⟨D + 1, 0, none⟩) 2 2, .slice (some ⟨D + 1 + 1, 0, none⟩) 1 1, .slice none 0 0]) := by show Blk _ _ _ _; rw [hWE, hD]; exact Blk.new' (by simp)
       have hxE : Ext WD WE := by rw [hWE]; exact ((((Ext.refl _).alloc _).alloc _).alloc _).alloc _
       have HXE := Lib.hid (HXD.out.trans hxE)
       have HPN2 := Lib.hid (HPN.out.ext hxE); have HJE := Lib.hid (HJD.out.ext hxE); have HRE := Lib.hid (HRD.out.ext hxE)
       have hgS : D + 1 + 1 + 1 < WE.heap.size := HST.out.lt
       have hwD : w.heap.size + 1 < D := by rw [hD]; exact HRD.out.lt
       rw [← hD]
       have HSM2 := Lib.hid (HSM.out.ext HXE.out)
       clear hWE hD hxE HPN HJD HRD HXD HGD HPD p0 p1 p2 p3 p4 p5 p6 q0 q1 q2 q3 q4 q5 q6
       go_wp2_with fail
       go_loopw [13] (fun i wr => ∃ (k : Nat) (vS vM : Value), k ≤ nM ∧ i = .int .i64 k ∧ Blk 29 wr (D + 1 + 1 + 1) [.string pairN, vS, vM, .slice (some ⟨D, 0, none⟩) 2 2, .slice (some ⟨D + 1, 0, none⟩) 2 2, .slice (some ⟨D + 1 + 1, 0, none⟩) 1 1, .slice none 0 0] ∧ wr.ownsRow WE.heap.size 9 1 vS k (((List.range k).map sizeN).map fun s => Value.string s) ∧ OwnI wr WE.heap.size vM (ms.take k) ∧ Kept (fun b => b = D + 1 + 1 + 1) WE wr) (fun i _ => nM - (intOf i).toNat)
       case atStart => exact ⟨0, _, _, Nat.zero_le _, rfl, HST.out, World.ownsRow_nil _ _ _ _, OwnI.nil _ _, Kept.refl _ _⟩
       case round =>
        obtain ⟨k, vS, vM, hk, rfl, hst, hoS, hoM, hkp⟩ := hrel
        obtain ⟨wF, rfl⟩ : ∃ wF : World, wF = wr := ⟨_, rfl⟩
        have HSTf := Lib.hid hst; have HOS := Lib.hid hoS; have HOM := Lib.hid hoM; have HKF := Lib.hid hkp
        have HJF := Lib.hid (hkp.blk HJE.out (by omega))
        have hgF : D + 1 + 1 + 1 < wF.heap.size := HSTf.out.lt
        have hsF : WE.heap.size ≤ wF.heap.size := hkp.size
        clear hst hoS hoM hkp
        obtain ⟨s0, hs0, hs1, hs2, hs3⟩ := info_parts str_info
        obtain ⟨s0', hi0', hi1', hi2', hi3'⟩ := info_parts int_info'
        obtain ⟨j0, j1, j2, j3, j4, j5, j6, j7, j8, j9, j10, j11, j12⟩ := blk13 HJF.out
        obtain ⟨p0, p1, p2, p3, p4, p5, p6⟩ := blk7 HSTf.out
        by_cases hlt : k < nM
        ·have hk1 : (k : Int) < (nM : Int) := by omega
         have hk2 : IntKind.i64.wrap (48 + (k : Int)) = 48 + (k : Int) := IntWalk.i64_in _ (by omega)
         have hk3 : IntKind.u8.wrap (48 + (k : Int)) = 48 + (k : Int) := IntWalk.u8_in _ (by omega)
         obtain ⟨bs, hbs⟩ : ∃ bs : ByteArray, bs = ⟨#[UInt8.ofNat (48 + k)]⟩ := ⟨_, rfl⟩
         have hcv : (convert 90 9 (.slice (some ⟨wF.heap.size, 0, none⟩) 1 1)).run Tryz.prog (wF.alloc (.cells #[.int .u8 (48 + (k : Int))] 5)) = .ok (.string bs) (wF.alloc (.cells #[.int .u8 (48 + (k : Int))] 5)) := by
          have h := run_convert_bytes_arg (P := Tryz.prog) (wF.alloc (.cells #[.int .u8 (48 + (k : Int))] 5)) 90 5 Tryz.underlying90 Tryz.underlying5 wF.heap.size 0 1 1 [48 + (k : Int)] rfl (fun i hi => by
           obtain rfl : i = 0 := by omega
           have hb : Blk 5 (wF.alloc (.cells #[.int .u8 (48 + (k : Int))] 5)) wF.heap.size [.int .u8 (48 + (k : Int))] := Blk.new' rfl
           exact hb.cell 0) 9 Tryz.underlying9
          have e : strOfNums [48 + (k : Int)] = ⟨#[UInt8.ofNat (48 + k)]⟩ := by
           show (⟨#[UInt8.ofNat (48 + (k : Int)).toNat]⟩ : ByteArray) = _
           rw [show (48 + (k : Int)).toNat = 48 + k by omega]
          rw [e, ← hbs] at h
          exact h
         obtain ⟨SL, hSL⟩ : ∃ SL, SL = ((List.range k).map sizeN).map fun s => Value.string s := ⟨_, rfl⟩
         rw [← hSL] at HOS
         have HSL := Lib.hid hSL
         clear hSL
         have HQ1 : Hid ([Value.string (⟨#[83]⟩ ++ bs)] = [Value.string (sizeN k)]) := by show _ = _; rw [hbs, size_cat k (by omega)]
         have hbz : bs.size = 1 := by rw [hbs]; rfl
         have hbz' : (⟨#[83]⟩ : ByteArray).size = 1 := rfl
         clear hbs
         have HQ2 : Hid (k + 1 ≤ maxLen) := by show _ ≤ _; unfold maxLen; omega
         have HQ3 : Hid ((k + 1) * 16 ≤ 140737488355328) := by show _ ≤ _; omega
         go_wp2_with (at_builtin; refine wpList_append_lies _ rfl (.tmp 146) (.tmp 153) 22 rfl WE.heap.size 9 s0 (.string ⟨#[]⟩) 1 16 Tryz.underlying22 hs0 hs1 hs2 hs3 rfl (by decide) vS k SL rfl (own_ext HOS.out (((Ext.refl _).alloc _).alloc _)) ⟨wF.heap.size + 1, 0, none⟩ 1 1 [.string (⟨#[83]⟩ ++ bs)] rfl rfl (blk_news (t := 9) (Blk.new' (by simp))) (by simp [Value.oneCell']) (by decide) HQ2.out HQ3.out (Nat.le_trans hsF (by simp; omega)) (wF.heap.size + 1 + 1) (by simp) ?_)
         intro gg cap w2 hown hgrow hat hlt2
         rw [HQ1.out] at hown
         obtain ⟨sn, hsn⟩ : ∃ sn : ByteArray, sn = ⟨#[83]⟩ ++ bs := ⟨_, rfl⟩
         rw [← hsn] at hgrow ⊢
         obtain ⟨wA, hwA⟩ : ∃ wA, wA = (wF.alloc (.cells #[.int .u8 (48 + (k : Int))] 5)).alloc (.cells #[Value.string sn] 9) := ⟨_, rfl⟩
         have hxA : Ext wF wA := by rw [hwA]; exact ((Ext.refl _).alloc _).alloc _
         rw [← hwA] at hgrow
         have hlow : ∀ b, vS.ownBlock = some b → WE.heap.size ≤ b := fun b hb => (World.ownsRow.lt HOS.out b hb).1
         have hkG : Kept (fun b => b = D + 1 + 1 + 1) WE w2 := (HKF.out.trans (hxA.kept _)).grownB hgrow hlow
         have hSA := HSTf.out.ext hxA
         have hST2 : Blk 29 w2 (D + 1 + 1 + 1) [.string pairN, vS, vM, .slice (some ⟨D, 0, none⟩) 2 2, .slice (some ⟨D + 1, 0, none⟩) 2 2, .slice (some ⟨D + 1 + 1, 0, none⟩) 1 1, .slice none 0 0] :=
          (hgrow.block _ hSA.lt (fun e => by have := hlow _ e.symm; omega)).trans hSA
         have hOM2 : OwnI w2 WE.heap.size vM (ms.take k) := World.ownsRow.kept (own_ext HOM.out hxA) hgrow (own_ne (own_ext HOM.out hxA) (own_ext HOS.out hxA) (by decide))
         have hgg : ¬ gg = D + 1 + 1 + 1 := by
          rcases hat with h | h
          ·have := hlow _ h; omega
          ·omega
         have HOS2 := Lib.hid hown; have HST2 := Lib.hid hST2; have HOM2 := Lib.hid hOM2; have HKG := Lib.hid hkG
         clear hown hgrow hat hlt2 hwA hxA hlow hkG hSA hST2 hOM2 HOS HOM HKF HSTf HJF hgF hsF p0 p1 p2 p3 p4 p5 p6 hs0 hs1 hs2 hs3 hcv HQ1 HQ2 HQ3 hsn hk2 hk3 j0 j1 j2 j3 j4 j5 j6 j7 j8 j9 j10 j11 j12
         clear s0
         obtain ⟨p0, p1, p2, p3, p4, p5, p6⟩ := blk7 HST2.out
         have f1 := HST2.out.frozen 1
         go_upto_region 26 with fail
         refine wp_at fun wG hwG => ?_
         have hST3 : Blk 29 wG (D + 1 + 1 + 1) [.string pairN, .slice (some ⟨gg, 0, none⟩) (k + 1) cap, vM, .slice (some ⟨D, 0, none⟩) 2 2, .slice (some ⟨D + 1, 0, none⟩) 2 2, .slice (some ⟨D + 1 + 1, 0, none⟩) 1 1, .slice none 0 0] := by rw [hwG]; exact HST2.out.set 1 _
         have hOS3 : wG.ownsRow WE.heap.size 9 1 (.slice (some ⟨gg, 0, none⟩) (k + 1) cap) (k + 1) (SL ++ [.string (sizeN k)]) := by rw [hwG]; exact own_set HOS2.out (fun e => hgg (by simpa [Value.ownBlock] using e)) _
         have hOM3 : OwnI wG WE.heap.size vM (ms.take k) := by rw [hwG]; exact own_set HOM2.out (fun e => own_blk_ne HOM2.out HST2.out (by decide) e) _
         have hkG : Kept (fun b => b = D + 1 + 1 + 1) WE wG := by rw [hwG]; exact kset HKG.out _ _
         have HST3 := Lib.hid hST3; have HOS3 := Lib.hid hOS3; have HOM3 := Lib.hid hOM3; have HKG3 := Lib.hid hkG
         have HXG : Hid (Ext w wG) := hkG.ext HXE.out (fun b e => by omega)
         have HJG := Lib.hid (hkG.blk HJE.out (by omega))
         have hgG : D + 1 + 1 + 1 < wG.heap.size := hST3.lt
         have hsG : WE.heap.size ≤ wG.heap.size := hkG.size
         clear hwG hST3 hOS3 hOM3 hkG HOS2 HST2 HOM2 HKG p0 p1 p2 p3 p4 p5 p6 f1
         obtain ⟨bm, om, rfl, m0⟩ := (HSM.out.ext HXG.out).g (k := k) (by rw [HLM.out]; exact hlt)
         obtain ⟨mk, hmk⟩ : ∃ z, z = gI ms k := ⟨_, rfl⟩
         rw [← hmk] at m0
         have HM0' := Lib.hid m0; have HMK := Lib.hid hmk
         obtain ⟨ML, hML⟩ : ∃ ML, ML = ms.take k := ⟨_, rfl⟩
         rw [← hML] at HOM3
         have hml : ML.length = k := by rw [hML, List.length_take, HLM.out]; omega
         have HML := Lib.hid hML; have HMLL := Lib.hid hml
         clear m0 hmk hML hml
         refine region_slotsD (m := 3) (l := 8) (N := 167) (W0 := wG) [156, 157, 158, 159, 160, 161, 162, 163] [Fx (.pointer (some ⟨D + 1 + 1 + 1, 2, none⟩)), Fx (vM), Fx (.pointer (some ⟨w.heap.size, 11, none⟩)), Fx (.slice (some ⟨bm, om, none⟩) nM cM), Fx (.int .i64 (k : Int)), Fx (.pointer (some ⟨bm, om + k, none⟩)), Fx (.int .i64 mk), IsRow1 3 [.int .i64 mk]] (by kernel_rfl) (by omega) (by kernel_rfl) (by kernel_rfl) (by kernel_rfl) (Ext.refl _) ?kp (fun i hi => ?_) (fun xs w1 hx hT => ?_)
         case kp => exact ⟨Fx.kp _, Fx.kp _, Fx.kp _, Fx.kp _, Fx.kp _, Fx.kp _, Fx.kp _, IsRow1.kp _ _, trivial⟩
         ·match i, hi with
          |0, _ =>
           refine so rfl ?_
           intro fb wi hx hb hd K hK
           have x12 : fb.eval (.tmp 12) = .pointer (some ⟨D + 1 + 1 + 1, 0, none⟩) := hb 12 (by kernel_rfl)
           refine step_valR (wanted_all rfl) (v := .pointer (some ⟨D + 1 + 1 + 1, 2, none⟩)) (w' := wi) (fun ρ hρ hc => ?_) (hK _ _ (Ext.refl _) (rfl))
           have r12 := (hρ (.tmp 12)).trans x12
           simp [execOp, go_sem, r12]
          |1, _ =>
           refine so rfl ?_
           intro fb wi hx hb hd K hK
           have x156 : fb.eval (.tmp 156) = .pointer (some ⟨D + 1 + 1 + 1, 2, none⟩) := hd 0 156 rfl (by kernel_rfl)
           have cf0 := (HST3.out.ext hx).cell 2
           simp only [List.getElem?_cons_zero, List.getElem?_cons_succ] at cf0
           refine step_valR (wanted_all rfl) (v := vM) (w' := wi) (fun ρ hρ hc => ?_) (hK _ _ (Ext.refl _) (rfl))
           have r156 := (hρ (.tmp 156)).trans x156
           simp [execOp, go_sem, r156, cf0]
          |2, _ =>
           refine so rfl ?_
           intro fb wi hx hb hd K hK
           have x1 : fb.eval (.tmp 1) = .pointer (some ⟨w.heap.size, 0, none⟩) := hb 1 (by kernel_rfl)
           refine step_valR (wanted_all rfl) (v := .pointer (some ⟨w.heap.size, 11, none⟩)) (w' := wi) (fun ρ hρ hc => ?_) (hK _ _ (Ext.refl _) (rfl))
           have r1 := (hρ (.tmp 1)).trans x1
           simp [execOp, go_sem, r1]
          |3, _ =>
           refine so rfl ?_
           intro fb wi hx hb hd K hK
           have x158 : fb.eval (.tmp 158) = .pointer (some ⟨w.heap.size, 11, none⟩) := hd 2 158 rfl (by kernel_rfl)
           have cf0 := (HJG.out.ext hx).cell 11
           simp only [List.getElem?_cons_zero, List.getElem?_cons_succ] at cf0
           refine step_valR (wanted_all rfl) (v := .slice (some ⟨bm, om, none⟩) nM cM) (w' := wi) (fun ρ hρ hc => ?_) (hK _ _ (Ext.refl _) (rfl))
           have r158 := (hρ (.tmp 158)).trans x158
           simp [execOp, go_sem, r158, cf0]
          |4, _ =>
           refine so rfl ?_
           intro fb wi hx hb hd K hK
           have x13 : fb.eval (.tmp 13) = .int .i64 (k : Int) := hb 13 (by kernel_rfl)
           refine step_valR (wanted_all rfl) (v := .int .i64 (k : Int)) (w' := wi) (fun ρ hρ hc => ?_) (hK _ _ (Ext.refl _) (rfl))
           have r13 := (hρ (.tmp 13)).trans x13
           simp [execOp, go_sem, r13]
          |5, _ =>
           refine so rfl ?_
           intro fb wi hx hb hd K hK
           have x159 : fb.eval (.tmp 159) = .slice (some ⟨bm, om, none⟩) nM cM := hd 3 159 rfl (by kernel_rfl)
           have x160 : fb.eval (.tmp 160) = .int .i64 (k : Int) := hd 4 160 rfl (by kernel_rfl)
           refine step_valR (wanted_all rfl) (v := .pointer (some ⟨bm, om + k, none⟩)) (w' := wi) (fun ρ hρ hc => ?_) (hK _ _ (Ext.refl _) (rfl))
           have r159 := (hρ (.tmp 159)).trans x159
           have r160 := (hρ (.tmp 160)).trans x160
           simp [execOp, go_sem, r159, r160, hk1, hlt]
          |6, _ =>
           refine so rfl ?_
           intro fb wi hx hb hd K hK
           have x161 : fb.eval (.tmp 161) = .pointer (some ⟨bm, om + k, none⟩) := hd 5 161 rfl (by kernel_rfl)
           have q0 := hx.cell HM0'.out
           refine step_valR (wanted_all rfl) (v := .int .i64 mk) (w' := wi) (fun ρ hρ hc => ?_) (hK _ _ (Ext.refl _) (rfl))
           have r161 := (hρ (.tmp 161)).trans x161
           simp [execOp, go_sem, r161, q0]
          |7, _ =>
           refine so rfl ?_
           intro fb wi hx hb hd K hK
           have x162 : fb.eval (.tmp 162) = .int .i64 mk := hd 6 162 rfl (by kernel_rfl)
           refine step_valR (wanted_all rfl) (v := .slice (some ⟨wi.heap.size, 0, none⟩) 1 1) (w' := wi.alloc (.cells #[.int .i64 mk] 3)) (fun ρ hρ hc => ?_) (hK _ _ ((Ext.refl _).alloc _) (⟨wi.heap.size, rfl, Blk.new' rfl⟩))
           have r162 := (hρ (.tmp 162)).trans x162
           simp [execOp, go_sem, r162]
          |n + 8, hn => exact absurd hn (by omega)
         ·skip
          have t157 : Fx (vM) (xs 1) w1 := hT 1 (by decide)
          have t163 : IsRow1 3 [.int .i64 mk] (xs 7) w1 := hT 7 (by decide)
          simp only [frOf, putAll, List.drop_succ_cons, List.drop_zero, List.setIfInBounds_toArray, List.set_cons_succ, List.set_cons_zero, Nat.zero_add, Nat.reduceAdd]
          have hT7 : IsRow1 3 [.int .i64 mk] (xs 7) w1 := hT 7 (by decide)
          have hT1 : xs 1 = vM := hT 1 (by decide)
          obtain ⟨gR, hgR, hbR⟩ := hT7
          rw [hgR, hT1]
          have HBR := Lib.hid hbR
          have HX7 := Lib.hid hx
          have hs7 : wG.heap.size ≤ w1.heap.size := hx.size
          have hs75 : WE.heap.size ≤ w1.heap.size := Nat.le_trans hsG hs7
          clear hT hgR hT1 hbR hx t157 t163
          refine wpList_append_lies _ rfl (.tmp 157) (.tmp 163) 23 rfl WE.heap.size 3 s0' (.int .i64 0) 1 8 Tryz.underlying23 hi0' hi1' hi2' hi3' rfl (by decide) vM ML.length (icells ML) rfl (own_ext HOM3.out HX7.out) ⟨gR, 0, none⟩ 1 1 [.int .i64 mk] rfl rfl (blk_news HBR.out) (by simp [Value.oneCell']) (by decide) (by rw [HMLL.out]; unfold maxLen; omega) (by rw [HMLL.out]; omega) hs75 w1.heap.size rfl ?_
          intro gm capm w2 hown hgrow hat hlt2
          have hlow : ∀ b, vM.ownBlock = some b → WE.heap.size ≤ b := fun b hb => (World.ownsRow.lt HOM3.out b hb).1
          have hk7 : Kept (fun b => b = D + 1 + 1 + 1) WE w2 := (HKG3.out.trans (HX7.out.kept _)).grownB hgrow hlow
          have hSA := HST3.out.ext HX7.out
          have hp2 : Blk 29 w2 (D + 1 + 1 + 1) [.string pairN, .slice (some ⟨gg, 0, none⟩) (k + 1) cap, vM, .slice (some ⟨D, 0, none⟩) 2 2, .slice (some ⟨D + 1, 0, none⟩) 2 2, .slice (some ⟨D + 1 + 1, 0, none⟩) 1 1, .slice none 0 0] :=
           (hgrow.block _ hSA.lt (fun e => by have := hlow _ e.symm; omega)).trans hSA
          have hOS2 : w2.ownsRow WE.heap.size 9 1 (.slice (some ⟨gg, 0, none⟩) (k + 1) cap) (k + 1) (SL ++ [.string (sizeN k)]) := World.ownsRow.kept (own_ext HOS3.out HX7.out) hgrow (own_ne (own_ext HOS3.out HX7.out) (own_ext HOM3.out HX7.out) (by decide))
          have hgm : ¬ gm = D + 1 + 1 + 1 := by
           rcases hat with h | h
           ·have := hlow _ h; omega
           ·omega
          have ho2 : OwnI w2 WE.heap.size (.slice (some ⟨gm, 0, none⟩) (ML.length + 1) capm) (ms.take (k + 1)) := by
           rw [take_succ _ _ (by rw [HLM.out]; exact hlt), ← HML.out, ← gI_eq (by rw [HLM.out]; exact hlt), ← HMK.out]
           show w2.ownsRow _ _ _ _ (ML ++ [mk]).length _
           rw [List.length_append]
           have e : icells (ML ++ [mk]) = icells ML ++ [.int .i64 mk] := by simp [icells]
           rw [e]
           exact hown
          have HO2 := Lib.hid ho2; have HP2 := Lib.hid hp2; have HK7 := Lib.hid hk7; have HOS4 := Lib.hid hOS2
          clear hown hgrow hat hlow hk7 hp2 ho2 hOS2 hSA HBR HX7 hs7 hs75 hlt2 HST3 HOS3 HOM3 HKG3
          obtain ⟨p0, p1, p2, p3, p4, p5, p6⟩ := blk7 HP2.out
          have f2 := HP2.out.frozen 2
          rw [HMLL.out] at HO2 ⊢
          generalize xs 0 = y0
          generalize xs 2 = y2
          generalize xs 3 = y3
          generalize xs 4 = y4
          generalize xs 5 = y5
          generalize xs 6 = y6
          clear xs
          go_wp2_with fail
          go_roundw
          case rel =>
           refine ⟨k + 1, _, _, by omega, by go_num, HP2.out.set 2 _, ?_, ?_, kset HK7.out _ _⟩
           ·rw [List.range_succ, List.map_append, List.map_append, ← HSL.out]
            exact own_set HOS4.out (fun e => hgg (by simpa [Value.ownBlock] using e)) _
           ·exact own_set HO2.out (fun e => hgm (by simpa [Value.ownBlock] using e)) _
          case measure => simp [intOf]; omega
        ·obtain rfl : nM = k := by omega
         have hfs : ∃ A c, vS = .slice A nM c ∧ nM ≤ c := by
          rcases HOS.out.2 with ⟨rfl, h⟩ | ⟨g, cap, cur, rfl, _, _, h, _⟩
          ·exact ⟨none, 0, by rw [h], by omega⟩
          ·exact ⟨_, cap, rfl, h⟩
         obtain ⟨AS', cS', rfl, hcS⟩ := hfs
         have hmt : ms.take nM = ms := List.take_of_length_le (by rw [HLM.out]; omega)
         rw [hmt] at HOM
         obtain ⟨AM', cM', hvM⟩ : ∃ A c, vM = .slice A nM c := by
          obtain ⟨A, c, h, _⟩ := HOM.out.slice
          rw [HLM.out] at h
          exact ⟨A, c, h⟩
         subst hvM
         have HRF := Lib.hid (HKF.out.blk HRE.out (by omega))
         obtain ⟨r0, r1, r2, r3, r4, r5, r6⟩ := blk7 HRF.out
         have f0 := HRF.out.frozen 0; have f1 := HRF.out.frozen 1; have f2 := HRF.out.frozen 2; have f3 := HRF.out.frozen 3; have f4 := HRF.out.frozen 4; have f5 := HRF.out.frozen 5; have f6 := HRF.out.frozen 6
         clear hmt
         go_wp2_with fail
         obtain ⟨w5, hw5⟩ : ∃ w5, w5 = ((((((wF.setCell ⟨w.heap.size + 1, 0, none⟩ (.string pairN)).setCell ⟨w.heap.size + 1, 1, none⟩ (.slice AS' nM cS')).setCell ⟨w.heap.size + 1, 2, none⟩ (.slice AM' nM cM')).setCell ⟨w.heap.size + 1, 3, none⟩ (.slice (some ⟨D, 0, none⟩) 2 2)).setCell ⟨w.heap.size + 1, 4, none⟩ (.slice (some ⟨D + 1, 0, none⟩) 2 2)).setCell ⟨w.heap.size + 1, 5, none⟩ (.slice (some ⟨D + 1 + 1, 0, none⟩) 1 1)).setCell ⟨w.heap.size + 1, 6, none⟩ (.slice none 0 0) := ⟨_, rfl⟩
         rw [← hw5]
         have hB5 : Blk 29 w5 (w.heap.size + 1) [.string pairN, .slice AS' nM cS', .slice AM' nM cM', .slice (some ⟨D, 0, none⟩) 2 2, .slice (some ⟨D + 1, 0, none⟩) 2 2, .slice (some ⟨D + 1 + 1, 0, none⟩) 1 1, .slice none 0 0] := by
          rw [hw5]; exact ((((((HRF.out.set 0 _).set 1 _).set 2 _).set 3 _).set 4 _).set 5 _).set 6 _
         have hk5 : Kept (fun b => b = w.heap.size + 1) wF w5 := by
          rw [hw5]; exact kset (kset (kset (kset (kset (kset (kset (Kept.refl _ _) _ _) _ _) _ _) _ _) _ _) _ _) _ _
         have hkE : Kept (fun b => b = D + 1 + 1 + 1 ∨ b = w.heap.size + 1) WE w5 := (HKF.out.mono (fun _ _ e => Or.inl e)).trans (hk5.mono (fun _ _ e => Or.inr e))
         clear hw5 r0 r1 r2 r3 r4 r5 r6 f0 f1 f2 f3 f4 f5 f6 p0 p1 p2 p3 p4 p5 p6 j0 j1 j2 j3 j4 j5 j6 j7 j8 j9 j10 j11 j12
         obtain ⟨r0, r1, r2, r3, r4, r5, r6⟩ := blk7 hB5
         refine bodyPost_ret (v := StyA.val ⟨pairN, AS', nM, cS', AM', nM, cM', some ⟨D, 0, none⟩, 2, 2, some ⟨D + 1, 0, none⟩, 2, 2, some ⟨D + 1 + 1, 0, none⟩, 1, 1, none, 0, 0⟩) (by simp [results, Tryz.results14, go_sem, r0, r1, r2, r3, r4, r5, r6, StyA.val]) rfl ?_
         refine ⟨_, rfl, ?_, hkE.ext HXE.out (fun b e => by omega)⟩
         have hQ : ∀ b, (b = D + 1 + 1 + 1 ∨ b = w.heap.size + 1) → ∃ cs, Blk 29 WE b cs := fun b e => by
          rcases e with rfl | rfl
          ·exact ⟨_, HST.out⟩
          ·exact ⟨_, HRE.out⟩
         have hN5 := HPN2.out.kept hkE hQ
         have hnk : ∀ {t : TypeId} {g : Nat} {cs : List Value}, Blk t WE g cs → t ≠ 29 → Blk t w5 g cs := fun {t g cs} hb ht => hkE.blk hb (fun e => by
          obtain ⟨cs', hb'⟩ := hQ _ e
          exact hb.ne hb' ht rfl)
         have hnll : NL.length = nN := HNLL.out
         have hpa := hN5.pcA HLL.out ⟨hn1, hc1⟩ rfl rfl hnll h4
         have hpb := hN5.pcB HNL0.out ⟨hcE, hcE'⟩ ⟨hca, hca'⟩ HNL1.out ⟨hcb, hcb'⟩ rfl hnll h4
         have eA : (⟨[(joinN, L), (backN, [(lx, ly), (px, py), (fx, fy)])], [(sx, sy), (ex, ey)], [0, 0], NL⟩ : Pc) = JX.p ⟨L, (sx, sy), (ex, ey), f, q, (mx, my), (px, py), ms, ns⟩ := by
          rw [HNE'.out, ← HBK.out]; rfl
         have eB : (⟨[(joinN, N0), (backN, N1)], [(c0x, c0y), (c1x, c1y)], [0, 0], NL⟩ : Pc) = imP q (mx, my) (JX.p ⟨L, (sx, sy), (ex, ey), f, q, (mx, my), (px, py), ms, ns⟩) := by
          rw [HN0.out, HN1.out, HM0.out, HM1.out, ← HBK.out, HCA.out, HCB.out, HNE'.out]; rfl
         rw [eA] at hpa
         rw [eB] at hpb
         have hOS5 := own_kept HOS.out hk5 (fun b hb e => by subst e; exact own_blk_ne HOS.out HRF.out (by decide) hb)
         have hOM5 : OwnI w5 WE.heap.size (.slice AM' nM cM') ms := own_kept HOM.out hk5 (fun b hb e => by subst e; exact own_blk_ne HOM.out HRF.out (by decide) hb)
         exact pn_sty (a := ⟨oneN, some ⟨B, 0, none⟩, 2, 2, 1, VA, nN, vc, some ⟨B + 1, 0, none⟩, 2, 2, some ⟨B + 1 + 1, 0, none⟩, 2, 2, false⟩) (b := ⟨twoN, some ⟨gE, 0, none⟩, 2, cE, 1, VA, nN, vc, some ⟨gc, 0, none⟩, 2, 2, some ⟨B + 1 + 1, 0, none⟩, 2, 2, false⟩) (x := ⟨L, (sx, sy), (ex, ey), f, q, (mx, my), (px, py), ms, ns⟩) (hnk HPS.out (by decide)) hpa hpb rfl rfl rfl rfl (hnk HUS.out (by decide)) (hnk HSE.out (by decide)) hOS5 hcS hOM5 HLM.out h5
end Go.Proofs.YtfegbaokcbjllaaGreat
