/- notch.placed, Placed -/
import Derived.Deep.CutRange
import Derived.OwnWalk
import Derived.Test.YtfegbaokcbjllaaGreatKNotP
namespace Go.Proofs.YtfegbaokcbjllaaGreat
open Go.RowKit
def RetPl (w : World) (p : Pc) (m : Int) (e : Ending) (w' : World) : Prop :=
 ∃ v u, e = .returned (.tuple #[v, u, .int .i64 (plE p m)]) ∧ (plE p m = 0 → OwnI w' w.heap.size v (plL p m) ∧ OwnE w' w.heap.size u (gradedE p.es p.cs m)) ∧ (plE p m ≠ 0 → v = .slice none 0 0 ∧ u = .slice none 0 0) ∧ Ext w w'
theorem retPl_bad {w w' : World} {p : Pc} {m x : Int} (h : plE p m = x) (hx : x ≠ 0) (he : Ext w w') : RetPl w p m (.returned (.tuple #[.slice none 0 0, .slice none 0 0, .int .i64 x])) w' :=
 ⟨_, _, by rw [h], fun h0 => absurd (h.symm.trans h0) hx, fun _ => ⟨rfl, rfl⟩, he⟩
set_option maxRecDepth 100000 in
set_option maxHeartbeats 3200000 in
theorem placed_any (a : PcA) (p : Pc) (m : Int) (w : World) (hp : PcAt w a p) :
  Calls Tryz.prog 76 #[a.val, .int .i64 m] w (RetPl w p m) := by
 have HP := Lib.hid hp; clear hp
 have HG := Lib.hid (fun W (h : Ext w W) => graded_any a.nm a.AE a.AN a.AC a.AW a.nE a.cE a.nN a.cN a.nC a.cC a.nW a.cW a.gr m a.mt p.es p.cs W (HP.out.e.ext h) HP.out.le HP.out.ce HP.out.ce' (HP.out.c.ext h) HP.out.lc HP.out.nc)
 obtain ⟨nm, AE, nE, cE, gr, AN, nN, cN, AC, nC, cC, AW, nW, cW, mt⟩ := a
 obtain ⟨es, cs, ws, ns⟩ := p
 simp only at HG
 have HLE : Hid (es.length = nE) := HP.out.le
 have HLN : Hid (ns.length = nN) := HP.out.ln
 have HE : Hid (EdgesAt w AE es) := HP.out.e
 have HN : Hid (SpotsAt w AN ns) := HP.out.n
 have HPE : Hid (plE ⟨es, cs, ws, ns⟩ m = if gradedR es cs m ≠ 0 then gradedR es cs m else if 16 < nN then 5 else firstE (ntE ⟨es, cs, ws, ns⟩ m) nN) := by show _ = _; rw [← HLN.out]; rfl
 have HNT : Hid (∀ i, ntE ⟨es, cs, ws, ns⟩ m i = if (gS ns i).1 < 0 ∨ (es.length : Int) ≤ (gS ns i).1 then 3 else partE (lengthN (gE es (gS ns i).1.toNat).2) (lengthN (gE (gradedE es cs m) (gS ns i).1.toNat).2) (gS ns i).2) := fun i => rfl
 have HPV : Hid (∀ i, plV ⟨es, cs, ws, ns⟩ m i = partV (lengthN (gE es (gS ns i).1.toNat).2) (lengthN (gE (gradedE es cs m) (gS ns i).1.toNat).2) false (gS ns i).2) := fun i => rfl
 have HPL : Hid (plL ⟨es, cs, ws, ns⟩ m = plTo ⟨es, cs, ws, ns⟩ m nN) := by show _ = _; rw [← HLN.out]; rfl
 obtain ⟨pc, hpc⟩ : ∃ pc, pc = (⟨es, cs, ws, ns⟩ : Pc) := ⟨_, rfl⟩
 rw [← hpc] at HPE HNT HPV HPL ⊢
 have HPG : Hid (gradedE pc.es pc.cs m = gradedE es cs m) := by show _ = _; rw [hpc]
 clear hpc
 simp only [PcA.val]
 obtain ⟨i0, hi0, hz0, hz1, hz2⟩ := info_parts int_info
 go_enter Tryz.func76, Tryz.ntmps76
 go_wp2_with fail
 refine (HG.out _ ((Ext.refl _).alloc _)).mono ?_
 rintro e w1 ⟨v1, rfl, hv, hv', he1⟩
 have HB1 : Hid (Blk 40 w1 w.heap.size [.string nm, .slice AE nE cE, .int .i64 gr, .slice AN nN cN, .slice AC nC cC, .slice AW nW cW, .bool mt]) := (Blk.new' rfl).ext he1
 have HX1 := Lib.hid (((Ext.refl w).alloc _).trans he1)
 by_cases hz : gradedR es cs m = 0
 rotate_left
 ·have hvf := hv' hz
  subst hvf
  have HR : Hid (plE pc m = gradedR es cs m) := by show _ = _; rw [HPE.out, if_pos hz]
  have hzb : (gradedR es cs m != 0) = true := by simp [hz]
  obtain ⟨x, hx⟩ : ∃ x, x = gradedR es cs m := ⟨_, rfl⟩
  rw [← hx] at hz hzb HR ⊢
  have HZ := Lib.hid hz; clear hv hv' hz hx he1
  go_wp2_with fail
  go_ret3
  exact retPl_bad HR.out HZ.out HX1.out
 have hO := hv hz
 have HOE := Lib.hid (show OwnE w1 w.heap.size v1 (gradedE es cs m) from by
  obtain ⟨ps, h1, h2⟩ := hO
  refine ⟨ps, ⟨h1.1, fun k hk => ⟨(h1.2 k hk).1, own_base_le (h1.2 k hk).2 ?_⟩⟩, own_base_le h2 ?_⟩ <;> simp)
 have hGOK := (gradedR_iff es cs m).1 hz
 have HLB := Lib.hid (fun k (h : k < es.length) => ocheck_line hGOK.ok h)
 have HLG := Lib.hid (fun k (h : k < es.length) => graded_lines (cs := cs) (m := m) hz h)
 obtain ⟨A1, c1', hvf, hE1, _, _⟩ := OwnE.slice' (n := nE) hO (by rw [gradedE_len]; exact HLE.out)
 subst hvf
 have HGE := Lib.hid hE1
 rw [hz] at HPE ⊢
 clear hv hv' hz hO hE1 he1 hGOK HG
 simp only [ne_eq, not_true_eq_false, if_false] at HPE
 obtain ⟨c0, c1, c2, c3, c4, c5, c6⟩ := blk7 HB1.out
 by_cases h16 : 16 < nN
 ·have HR : Hid (plE pc m = 5) := by show _ = _; rw [HPE.out, if_pos h16]
  go_wp2_with fail
  go_ret3
  exact retPl_bad HR.out (by decide) HX1.out
 rw [if_neg h16] at HPE
 go_wp2_with fail
 clear c0 c1 c2 c3 c4 c5 c6
 go_loopw [9, 32] (fun v i wr => ∃ k : Nat, k ≤ nN ∧ i = .int .i64 k ∧ firstE (ntE pc m) k = 0 ∧ OwnI wr w1.heap.size v (plTo pc m k) ∧ Ext w1 wr) (fun _ i _ => nN - (intOf i).toNat)
 case atStart => exact ⟨0, Nat.zero_le _, rfl, rfl, OwnI.nil _ _, Ext.refl _⟩
 case round =>
  obtain ⟨k, hk, rfl, ht, ho, hx⟩ := hrel
  have HT := Lib.hid ht; clear ht
  have hlk := plTo_len pc m k
  obtain ⟨LK, hLK⟩ : ∃ LK, LK = plTo pc m k := ⟨_, rfl⟩
  rw [← hLK] at ho hlk
  have HLKE := Lib.hid hLK; have HO := Lib.hid ho; have HX := Lib.hid hx; clear hLK ho hx
  have HXw := Lib.hid (HX1.out.trans HX.out)
  by_cases hlt : k < nN
  ·obtain ⟨bn, on, hAN, n0, n1⟩ := (HN.out.ext HXw.out).g (k := k) (by rw [HLN.out]; exact hlt)
   subst hAN
   obtain ⟨nt, hnt⟩ : ∃ nt, nt = gS ns k := ⟨_, rfl⟩
   rw [← hnt] at n0 n1
   have hNTk := HNT.out k
   have hPVk := HPV.out k
   rw [← hnt] at hNTk hPVk
   have HNTk := Lib.hid hNTk; have HPVk := Lib.hid hPVk
   clear hnt hNTk hPVk
   obtain ⟨ed, at'⟩ := nt
   simp only at n0 n1 HNTk HPVk
   obtain ⟨c0, c1, c2, c3, c4, c5, c6⟩ := blk7 (HB1.out.ext HX.out)
   have hpl : w.heap.size < wr.heap.size := (HB1.out.ext HX.out).lt
   by_cases e0 : ed < 0
   ·have HNE : Hid (ntE pc m k = 3) := by show _ = _; rw [HNTk.out, if_pos (Or.inl e0)]
    have HR : Hid (plE pc m = 3) := by show _ = _; rw [HPE.out, firstE_at hlt HT.out (by rw [HNE.out]; decide), HNE.out]
    go_wp2_with fail
    go_ret3
    exact retPl_bad HR.out (by decide) (HXw.out.alloc _)
   by_cases e1 : (nE : Int) ≤ ed
   ·have HNE : Hid (ntE pc m k = 3) := by show _ = _; rw [HNTk.out, if_pos (Or.inr (by rw [HLE.out]; exact e1))]
    have HR : Hid (plE pc m = 3) := by show _ = _; rw [HPE.out, firstE_at hlt HT.out (by rw [HNE.out]; decide), HNE.out]
    go_wp2_with fail
    go_ret3
    exact retPl_bad HR.out (by decide) (HXw.out.alloc _)
   obtain ⟨D, rfl⟩ := Int.eq_ofNat_of_zero_le (show 0 ≤ ed by omega)
   have hD : D < nE := by omega
   have hDl : D < es.length := by rw [HLE.out]; exact hD
   have HNE := HNTk.out
   rw [if_neg (by rw [HLE.out]; omega), Int.toNat_natCast] at HNE
   have HPVd := HPVk.out
   rw [Int.toNat_natCast] at HPVd
   have HNEh := Lib.hid HNE; have HPVh := Lib.hid HPVd
   clear HNE HPVd HNTk HPVk
   have HXL : Hid (Ext wr (wr.alloc (.cells #[.int .i64 (D : Int), .int .i64 at'] 79))) := (Ext.refl _).alloc _
   have HZB := Lib.hid (HLB.out D hDl); have HZG := Lib.hid (HLG.out D hDl)
   obtain ⟨be, oe, L, cL, hAE, l0, l1, hSL, _, _⟩ := (HE.out.ext HXw.out).g (k := D) hDl
   subst hAE
   obtain ⟨lb, hlb⟩ : ∃ lb, lb = (gE es D).2 := ⟨_, rfl⟩
   rw [← hlb] at l1 hSL HZB HNEh HPVh
   clear hlb l0
   have hbe : be < wr.heap.size := cell_lt l1
   obtain ⟨nl, hnl⟩ : ∃ nl, nl = lb.length := ⟨_, rfl⟩
   rw [← hnl] at l1
   have HNL := Lib.hid hnl; have HSL := Lib.hid hSL; clear hnl hSL
   go_wp2_with fail
   refine (length_any L nl cL lb _ (HSL.out.ext HXL.out) HNL.out.symm).mono ?_
   rintro e w2 ⟨rfl, he2⟩
   rw [HZB.out]
   have HNB : Hid (Blk 79 w2 wr.heap.size [.int .i64 (D : Int), .int .i64 at']) := (Blk.new' rfl).ext he2
   have HX2 := Lib.hid ((HX.out.trans HXL.out).trans he2)
   have HXr2 := Lib.hid (HXL.out.trans he2)
   clear he2 c0 c1 c2 c3 c4 c5 c6 n0 n1 l1 hpl hbe
   obtain ⟨bg, og, LG, cG, hAG, g0, g1, hSG, _, _⟩ := (HGE.out.ext HX2.out).g (k := D) (by rw [gradedE_len]; exact hDl)
   subst hAG
   obtain ⟨lg, hlg⟩ : ∃ lg, lg = (gE (gradedE es cs m) D).2 := ⟨_, rfl⟩
   rw [← hlg] at g1 hSG HZG HNEh HPVh
   clear hlg g0
   obtain ⟨ng, hng⟩ : ∃ ng, ng = lg.length := ⟨_, rfl⟩
   rw [← hng] at g1
   have HNG := Lib.hid hng; have HSG := Lib.hid hSG; clear hng hSG
   obtain ⟨b0, b1⟩ := blk2 HNB.out
   go_wp2_with fail
   refine (length_any LG ng cG lg _ HSG.out HNG.out.symm).mono ?_
   rintro e w3 ⟨rfl, he3⟩
   rw [HZG.out]
   have HX3 := Lib.hid (HX2.out.trans he3)
   have HXr3 := Lib.hid (HXr2.out.trans he3)
   have HNB3 := Lib.hid (HNB.out.ext he3)
   clear he3 g1 b0 b1
   obtain ⟨b0, b1⟩ := blk2 HNB3.out
   go_wp2_with fail
   refine (partner_any (lengthN lb : Int) (lengthN lg : Int) at' false _).mono ?_
   rintro e w4 ⟨rfl, he4⟩
   rw [← HNEh.out, ← HPVh.out]
   have HX4 := Lib.hid (HX3.out.trans he4)
   have HXr4 := Lib.hid (HXr3.out.trans he4)
   clear he4 b0 b1
   obtain ⟨PV, hPV⟩ : ∃ PV, PV = plV pc m k := ⟨_, rfl⟩
   obtain ⟨NE, hNE⟩ : ∃ NE, NE = ntE pc m k := ⟨_, rfl⟩
   rw [← hPV, ← hNE]
   have HPVe := Lib.hid hPV; have HNEe := Lib.hid hNE
   clear hPV hNE HNEh HPVh
   by_cases hz : NE = 0
   rotate_left
   ·have HR : Hid (plE pc m = NE) := by show _ = _; rw [HPE.out, firstE_at hlt HT.out (by rw [← HNEe.out]; exact hz), HNEe.out]
    have hzb : (NE != 0) = true := by simp [hz]
    have HZ := Lib.hid hz; clear hz
    go_wp2_with fail
    go_ret3
    exact retPl_bad HR.out HZ.out (HX1.out.trans HX4.out)
   subst hz
   have HT' := Lib.hid (firstE_succ (f := ntE pc m) HT.out HNEe.out.symm)
   have hbb : w1.heap.size ≤ w4.heap.size := HX4.out.size
   have H63 : Hid (LK.length + 1 ≤ maxLen) := by show _ ≤ _; unfold maxLen; omega
   have H64 : Hid ((LK.length + 1) * 8 ≤ 140737488355328) := by show _ ≤ _; omega
   have HC6 : Hid (w1.heap.size ≤ (w4.alloc (.cells #[.int .i64 PV] 3)).heap.size) := by show _ ≤ _; simp; omega
   go_wp2_with (at_builtin; refine wpList_append_own _ rfl (.tmp 85) (.tmp 87) 23 rfl w1.heap.size 3 i0 (.int .i64 0) 1 8 Tryz.underlying23 hi0 hz0 hz1 hz2 rfl (by decide) _ _ _ rfl (World.ownsRow.alloc (own_ext HO.out HXr4.out) _) ⟨w4.heap.size, 0, none⟩ 1 1 [.int .i64 PV] rfl rfl (World.news_of_block (cs := #[.int .i64 PV]) (t := 3) (fr := (0, 0)) (heap_alloc_new w4 _)) (by simp [Value.oneCell']) H63.out H64.out HC6.out ?_)
   intro v' w5 hown' hgrow _
   have hO' : OwnI w5 w1.heap.size v' (plTo pc m (k + 1)) := by
    rw [plTo_succ, ← HLKE.out, ← HPVe.out]
    unfold OwnI icells
    rw [List.length_append, List.map_append, hlk]
    exact hown'
   have hx' : Ext w1 w5 := (HX4.out.alloc _).grown hgrow (fun g hg => (World.ownsRow.lt HO.out g hg).1)
   have HO' := Lib.hid hO'; clear hO' hown' hgrow
   go_wp2_with fail
   go_roundw
   case rel => exact ⟨k + 1, by omega, by go_num, HT'.out, HO'.out, hx'⟩
   case measure => simp [intOf]; omega
  ·obtain rfl : k = nN := by omega
   go_wp2_with fail
   go_ret3
   have hE0 : plE pc m = 0 := by rw [HPE.out]; exact HT.out
   refine ⟨_, _, by rw [hE0]; rfl, fun _ => ⟨?_, ?_⟩, fun h => absurd hE0 h, HXw.out⟩
   ·rw [HPL.out, ← HLKE.out]
    exact own_base_le HO.out HX1.out.size
   ·rw [HPG.out]
    exact HOE.out.ext HX.out
def RetPd (w : World) (p : Pc) (m : Int) (e : Ending) (w' : World) : Prop :=
 ∃ v, e = .returned (.tuple #[v, .int .i64 (plE p m)]) ∧ (plE p m = 0 → OwnI w' w.heap.size v (plL p m)) ∧ (plE p m ≠ 0 → v = .slice none 0 0) ∧ Ext w w'
set_option maxRecDepth 100000 in
theorem placedX_any (a : PcA) (p : Pc) (m : Int) (w : World) (hp : PcAt w a p) :
  Calls Tryz.prog 47 #[a.val, .int .i64 m] w (RetPd w p m) := by
 have HC := Lib.hid (fun W (h : Ext w W) => placed_any a p m W (hp.ext h)); clear hp
 obtain ⟨nm, AE, nE, cE, gr, AN, nN, cN, AC, nC, cC, AW, nW, cW, mt⟩ := a
 simp only [PcA.val] at HC ⊢
 go_enter Tryz.func47, Tryz.ntmps47
 go_wp2_with fail
 refine (HC.out _ ((Ext.refl _).alloc _)).mono ?_
 rintro e w1 ⟨v, u, rfl, h1, h2, he1⟩
 have HX1 := Lib.hid (((Ext.refl w).alloc _).trans he1); clear he1
 obtain ⟨E, hE⟩ : ∃ E, E = plE p m := ⟨_, rfl⟩
 rw [← hE] at h1 h2 ⊢
 have HE := Lib.hid hE; have H1 := Lib.hid h1; have H2 := Lib.hid h2; clear hE h1 h2
 go_wp2_with fail
 go_ret2
 refine ⟨v, by rw [← HE.out]; rfl, fun h => ?_, fun h => (H2.out (by rw [HE.out]; exact h)).1, HX1.out⟩
 exact own_base_le (H1.out (by rw [HE.out]; exact h)).1 (by simp)
end Go.Proofs.YtfegbaokcbjllaaGreat
