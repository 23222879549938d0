/- NotchMoves returns true -/
import Derived.Deep.CutRange
import Derived.Test.YtliijigdbpmpaaaKAwake
import Derived.Test.YtliijigdbpmpaaaKRMove
/- plain: notches of a piece whose corners are all shifted alike. No program in sight. -/
namespace Go.Proofs.Ytliijigdbpmpaaa
open Go.RowKit
def mvPc (p : Pc) (d : Spot) : Pc := ⟨p.es, List.replicate p.es.length d, p.ws, p.ns⟩
theorem mvPc_c (p : Pc) (d : Spot) : ∀ j, j < (mvPc p d).cs.length → gS (mvPc p d).cs j = d := fun j hj => by
  rw [gS_eq hj]; simp [mvPc]
theorem mv_exact {es : List Edge} {cs : List Spot} {d : Spot} {m : Int} {i : Nat} (h : GOk es cs m) (hd : ∀ j, j < cs.length → gS cs j = d) (hi : i < es.length) :
    mulS m d = (m * d.1, m * d.2) ∧ inR 100000 (m * d.1, m * d.2) ∧ (gE (gradedE es cs m) i).2.length = (gE es i).2.length ∧ ∀ k, k < (gE es i).2.length → gS (gE (gradedE es cs m) i).2 k = ((gS (gE es i).2 k).1 + m * d.1, (gS (gE es i).2 k).2 + m * d.2) := by
  have h0 : 0 < cs.length := by have := h.len; omega
  have hb := cornF_bd h.corn h0
  rw [hd 0 h0] at hb
  have hm := mulS_eq h.m0 h.m1 hb
  have b1 := mul_100 h.m0 h.m1 hb.1 hb.2.1
  have b2 := mul_100 h.m0 h.m1 hb.2.2.1 hb.2.2.2
  refine ⟨hm, ⟨b1.1, b1.2, b2.1, b2.2⟩, by rw [graded_equal h hd hi, List.length_map], fun k hk => ?_⟩
  rw [graded_equal h hd hi, gS_map hk, hm]
  unfold moveS
  simp only
  obtain ⟨_, _, hin⟩ := lcheck_zero (ocheck_line h.ok hi)
  obtain ⟨c1, c2, c3, c4⟩ := hin k hk
  rw [w64 (by omega) (by omega), w64 (by omega) (by omega)]
theorem mv_len {es : List Edge} {cs : List Spot} {d : Spot} {m : Int} {i : Nat} (h : GOk es cs m) (hd : ∀ j, j < cs.length → gS cs j = d) (hi : i < es.length) : lengthN (gE (gradedE es cs m) i).2 = lengthN (gE es i).2 := by
  obtain ⟨_, _, hl, hx⟩ := mv_exact h hd hi
  obtain ⟨h2, _, _⟩ := lcheck_zero (ocheck_line h.ok hi)
  unfold lengthN
  rw [if_neg (by rw [ocheck_line h.ok' (by rw [gradedE_len]; exact hi)]; decide), if_neg (by rw [ocheck_line h.ok hi]; decide), hl, lenTo_sum, lenTo_sum]
  refine sumN_congr (n := (gE es i).2.length - 1) (fun k hk => ?_) _ (Nat.le_refl _)
  rw [hx k (by omega), hx (k + 1) (by omega)]
  unfold seg sqN
  simp only
  generalize gS (gE es i).2 k = a
  generalize gS (gE es i).2 (k + 1) = b
  rw [show b.1 + m * d.1 - (a.1 + m * d.1) = b.1 - a.1 by omega, show b.2 + m * d.2 - (a.2 + m * d.2) = b.2 - a.2 by omega]
theorem along_in {l : List Spot} {s : Int} (hl : lcheck l = 0) (h0 : 0 ≤ s) (h : s ≤ (lengthN l : Int)) : inR 4000000 (alongS l s) := by
  obtain ⟨g1, g2, g3, g4, g5, g6⟩ := loc_facts hl h0 h
  exact mid_in (by omega) g2 g3 g5 g6
theorem mv_plV {p : Pc} {d : Spot} {m : Int} (h : PlOk (mvPc p d) m) {i : Nat} (hi : i < p.ns.length) : plV (mvPc p d) m i = (gS p.ns i).2 := by
  have hn := h.i i hi
  rw [plV_eq hn]
  have hk : (gS p.ns i).1.toNat < p.es.length := by have h0 := hn.e0; have h1 := hn.e1; simp only [mvPc] at h0 h1; omega
  have e : grdN (mvPc p d) m (gS (mvPc p d).ns i).1.toNat = baseN (mvPc p d) (gS (mvPc p d).ns i).1.toNat := mv_len ((gradedR_iff _ _ _).1 h.g) (mvPc_c p d) hk
  rw [e, part_self hn.b1]
  have h0 := hn.a0
  simp only [mvPc] at h0 ⊢
  omega
theorem mv_pl {p : Pc} {d : Spot} {m : Int} (h : PlOk (mvPc p d) m) : plL (mvPc p d) m = plL (mvPc p d) 0 := by
  obtain ⟨h0, h1⟩ := plV_zero h
  unfold plL plTo
  refine List.map_congr_left fun i hi => ?_
  have hi' : i < p.ns.length := List.mem_range.1 hi
  rw [mv_plV h hi', h1 i hi']; rfl
theorem mv_sp {p : Pc} {d : Spot} {m : Int} (h : PlOk (mvPc p d) m) : spL (mvPc p d) m = (spL (mvPc p d) 0).map (moveS (mulS m d)) := by
  obtain ⟨h0, h1⟩ := plV_zero h
  have hg := (gradedR_iff _ _ _).1 h.g
  obtain ⟨z0, z1⟩ := graded_zero hg
  unfold spL spTo
  rw [List.map_map]
  refine List.map_congr_left fun i hi => ?_
  have hi' : i < p.ns.length := List.mem_range.1 hi
  have hn := h0.i i hi'
  have hk : (gS p.ns i).1.toNat < p.es.length := by have h0 := hn.e0; have h1 := hn.e1; simp only [mvPc] at h0 h1; omega
  obtain ⟨x1, x2, x3, x4⟩ := mv_exact hg (mvPc_c p d) hk
  have hlc : lcheck (gE p.es (gS p.ns i).1.toNat).2 = 0 := ocheck_line hg.ok hk
  have ha0 := hn.a0; have ha1 := hn.a1
  simp only [mvPc, baseN] at ha0 ha1
  show spS (mvPc p d) m i = moveS (mulS m d) (spS (mvPc p d) 0 i)
  unfold spS
  rw [z1, mv_plV h hi', h1 i hi']
  have e := along_move (m * d.1, m * d.2) hlc x3 x4 ha0 ha1
  have hin := along_in hlc ha0 ha1
  show alongS (gE (gradedE (mvPc p d).es (mvPc p d).cs m) (gS p.ns i).1.toNat).2 (gS p.ns i).2 = moveS (mulS m d) (alongS (gE p.es (gS p.ns i).1.toNat).2 (gS p.ns i).2)
  rw [e, x1]
  unfold moveS
  simp only
  obtain ⟨c1, c2, c3, c4⟩ := hin
  obtain ⟨d1, d2, d3, d4⟩ := x2
  simp only at d1 d2 d3 d4
  rw [w64 (by omega) (by omega), w64 (by omega) (by omega)]
end Go.Proofs.Ytliijigdbpmpaaa
/- garmentref11.Same: equal lists of spots. No conditions. -/
namespace Go.Proofs.Ytliijigdbpmpaaa
open Go.RowKit
/- equal lists of spots -/
theorem R11Same_ne (A B : Option Addr) (n m c d : Nat) (w : World) (hnm : ((n : Int) != m) = true) :
    Calls Try.prog 17 #[.slice A n c, .slice B m d] w fun e w' => e = .returned (.bool false) ∧ Ext w w' := by
  go_enter Try.func17, Try.ntmps17
  go_wp2
  go_ret
  exact ⟨rfl, Ext.refl _⟩
theorem take_same_succ {l m : List Spot} {k : Nat} (hl : k < l.length) (hm : k < m.length) (h : l.take k = m.take k) (he : l[k] = m[k]) : l.take (k + 1) = m.take (k + 1) := by
  rw [take_succ _ _ hl, take_succ _ _ hm, h, he]
set_option maxHeartbeats 400000 in
theorem R11Same_len (A B : Option Addr) (n c d : Nat) (l m : List Spot) (w : World) (ha : SpotsAt w A l) (hb : SpotsAt w B m) (hl : l.length = n) (hm : m.length = n) (hn : n ≤ 9223372036854775807) :
    Calls Try.prog 17 #[.slice A n c, .slice B n d] w fun e w' => e = .returned (.bool (decide (l = m))) ∧ Ext w w' := by
  have HL := Lib.hid hl; clear hl
  have HM := Lib.hid hm; clear hm
  have HA := Lib.hid ha; clear ha
  have HB := Lib.hid hb; clear hb
  go_enter Try.func17, Try.ntmps17
  go_wp2
  go_loopw [5] (fun i wr => ∃ k : Nat, k ≤ n ∧ i = .int .i64 k ∧ l.take k = m.take k ∧ ∃ q, wr = w.drewN q) (fun i _ => n - (intOf i).toNat)
  case atStart => exact ⟨0, Nat.zero_le _, rfl, rfl, 0, rfl⟩
  case round =>
    obtain ⟨k, hk, rfl, ht, q, rfl⟩ := hrel
    have HT := Lib.hid ht; clear ht
    by_cases hlt : k < n
    · have hkl : k < l.length := by rw [HL.out]; exact hlt
      have hkm : k < m.length := by rw [HM.out]; exact hlt
      obtain ⟨b, off, rfl, hc0, hc1⟩ := HA.out k hkl
      obtain ⟨b', off', rfl, hd0, hd1⟩ := HB.out k hkm
      by_cases heq : l[k] = m[k]
      · have hq : eqS l[k].1 l[k].2 m[k].1 m[k].2 = true := (eqS_iff _ _).2 heq
        have HE := Lib.hid heq; clear heq
        go_wp2
        go_quiet (fail)
        go_wp2
        go_roundw
        case rel => exact ⟨k + 1, by omega, by go_num, take_same_succ hkl hkm HT.out HE.out, _, rfl⟩
        case measure => simp [intOf]; omega
      · have hq : eqS l[k].1 l[k].2 m[k].1 m[k].2 = false := by rw [Bool.eq_false_iff]; intro h; exact heq ((eqS_iff _ _).1 h)
        have HE := Lib.hid heq; clear heq
        go_wp2
        go_quiet (fail)
        go_wp2
        go_ret
        exact ⟨ret_bool (by symm; rw [decide_eq_false_iff_not]; rintro rfl; exact HE.out rfl), Ext.drewN (Ext.drewN (Ext.refl _) _) _⟩
    · go_wp2
      go_ret
      exact ⟨ret_bool (by
        have h := HT.out
        rw [List.take_of_length_le (by rw [HL.out]; omega), List.take_of_length_le (by rw [HM.out]; omega)] at h
        simp [h]), Ext.drewN (Ext.refl _) _⟩
theorem R11Same_any (A B : Option Addr) (c d : Nat) (l m : List Spot) (w : World) (ha : SpotsAt w A l) (hb : SpotsAt w B m) (hn' : m.length ≤ 9223372036854775807) :
    Calls Try.prog 17 #[.slice A l.length c, .slice B m.length d] w fun e w' => e = .returned (.bool (decide (l = m))) ∧ Ext w w' := by
  by_cases h : l.length = m.length
  · rw [h]; exact R11Same_len A B _ c d l m w ha hb h rfl hn'
  · rw [decide_eq_false (p := l = m) (by rintro rfl; exact h rfl)]
    exact R11Same_ne A B _ _ c d w (by simp; omega)

end Go.Proofs.Ytliijigdbpmpaaa
/- R21.Light, said of a piece -/
namespace Go.Proofs.Ytliijigdbpmpaaa
open Go.RowKit
structure LtP (p : Pc) (most : Nat) : Prop where
  e : p.es.length ≤ 20
  c : p.cs.length ≤ 20
  w : p.ws.length ≤ 20
  n : p.ns.length ≤ 20
  l : ∀ k, k < p.es.length → (gE p.es k).2.length ≤ most ∧ (gE p.es k).1.size ≤ 100
theorem lightP_any (a : PcA) (p : Pc) (most : Nat) (hm : most ≤ 1000) (w : World) (hp : PcAt w a p) :
    Calls Try.prog 26 #[a.val, .int .i64 (most : Int)] w fun e w' => ∃ b, e = .returned (.bool b) ∧ Ext w w' ∧ (b = true → LtP p most) :=
  (light_any a.nm a.AE a.AN a.AC a.AW a.nE a.cE a.nN a.cN a.nC a.cC a.nW a.cW a.gr a.mt p.es w most hm hp.e hp.le).mono fun e w' ⟨b, h1, h2, h3⟩ => ⟨b, h1, h2, fun hb => by
    obtain ⟨g1, g2, g3, g4, g5⟩ := h3 hb
    exact ⟨g1, by rw [hp.lc]; exact g2, by rw [hp.li]; exact g3, by rw [hp.ln]; exact g4, g5⟩⟩
end Go.Proofs.Ytliijigdbpmpaaa
/- garmentref23.Light -/
namespace Go.Proofs.Ytliijigdbpmpaaa
open Go.RowKit
def RetL3 (w : World) (p : Pc) (e : Ending) (w' : World) : Prop := ∃ b, e = .returned (.bool b) ∧ Ext w w' ∧ (b = true → LtP p 60)
set_option maxRecDepth 100000 in
set_option maxHeartbeats 1600000 in
theorem light3_any (a : PcA) (p : Pc) (w : World) (hp : PcAt w a p) :
    Calls Try.prog 9 #[a.val] w (RetL3 w p) := by
  have HL := Lib.hid (fun W (h : Ext w W) => lightP_any a p 60 (by omega) W (hp.ext h))
  clear hp
  obtain ⟨nm, AE, nE, cE, gr, AN, nN, cN, AC, nC, cC, AW, nW, cW, mt⟩ := a
  simp only [PcA.val] at HL ⊢
  go_enter Try.func9, Try.ntmps9
  go_wp2_with fail
  refine (HL.out _ ((Ext.refl _).alloc _)).mono ?_
  rintro e w1 ⟨b, rfl, he, hb⟩
  have HX := Lib.hid (((Ext.refl w).alloc _).trans he); have HB := Lib.hid hb
  clear he hb
  go_wp2_with fail
  go_ret
  exact ⟨b, rfl, HX.out, HB.out⟩
end Go.Proofs.Ytliijigdbpmpaaa
namespace Go.Proofs.Ytliijigdbpmpaaa
open Go.RowKit
/- behind an append to q.Corners: the row, q's block, what is kept -/
theorem corn_fin {w2 W wn : World} {L : List Spot} {V v : Value} {v0 v1 v2 v3 v4 v5 v6 : Value} (hQ : Blk 27 W w2.heap.size [v0, v1, v2, v3, v4, v5, v6]) (h1 : V.ownBlock ≠ some w2.heap.size) (hg : W.grownBy wn V.ownBlock)
    (ho : wn.ownsRow w2.heap.size 43 2 v L.length (scells L)) (hx : Ext w2 W) (hb : ∀ g, V.ownBlock = some g → w2.heap.size ≤ g) :
    Blk 27 (wn.setCell ⟨w2.heap.size, 4, none⟩ v) w2.heap.size [v0, v1, v2, v3, v, v5, v6] ∧ OwnT 43 (wn.setCell ⟨w2.heap.size, 4, none⟩ v) w2.heap.size v L ∧ Ext w2 (wn.setCell ⟨w2.heap.size, 4, none⟩ v) := by
  have hQ' : Blk 27 wn w2.heap.size [v0, v1, v2, v3, v4, v5, v6] := (hg.block _ hQ.lt (Ne.symm h1)).trans hQ
  exact ⟨hQ'.set 4 v, own_set ho (own_blk_ne ho hQ' (by decide)) v, (hx.grown hg hb).setCell (by simp) v⟩
set_option maxRecDepth 100000 in
set_option maxHeartbeats 6400000 in
theorem nmovesL_any (a : PcA) (p : Pc) (d : Spot) (m : Int) (w : World) (hp : PcAt w a p) :
    Calls Try.prog 4 #[a.val, SV d, .int .i64 m] w fun e w' => e = .returned (.bool true) ∧ Ext w w' := by
  have HP := Lib.hid hp; clear hp
  have H1 := Lib.hid (fun W (h : Ext w W) => light3_any a p W (HP.out.ext h))
  have HAT := Lib.hid (fun (VA : Option Addr) (vc : Nat) W (h : Ext w W) (hs : SpotsAt W VA (List.replicate p.es.length d)) => show PcAt W { a with AC := VA, nC := a.nE, cC := vc } (mvPc p d) from ⟨HP.out.e.ext h, HP.out.le, HP.out.ce, HP.out.ce', hs, by simp only [mvPc, List.length_replicate]; exact HP.out.le, Nat.le_trans HP.out.ce HP.out.ce', HP.out.i.ext h, HP.out.li, HP.out.n.ext h, HP.out.ln, HP.out.nn, HP.out.nw⟩)
  have H2 := Lib.hid (fun VA vc M W (h : Ext w W) hs => placedX_any _ _ M W (HAT.out VA vc W h hs))
  have H3 := Lib.hid (fun VA vc M W (h : Ext w W) hs => spots_any _ _ M W (HAT.out VA vc W h hs))
  have HLE : Hid (p.es.length = a.nE) := HP.out.le
  have HLN : Hid (p.ns.length = a.nN) := HP.out.ln
  obtain ⟨nm, AE, nE, cE, gr, AN, nN, cN, AC, nC, cC, AW, nW, cW, mt⟩ := a
  obtain ⟨dx, dy⟩ := d
  simp only [PcA.val] at H1 H2 H3 HLE HLN ⊢
  clear HP HAT
  obtain ⟨i0, hi0, hz0, hz1, hz2⟩ := info_parts spot_info
  go_enter Try.func4, Try.ntmps4
  go_wp2_with fail
  refine (H1.out _ (((Ext.refl _).alloc _).alloc _)).mono ?_
  rintro e w1 ⟨b, rfl, he1, hb⟩
  have HB1 : Hid (Blk 27 w1 w.heap.size [.string nm, .slice AE nE cE, .int .i64 gr, .slice AN nN cN, .slice AC nC cC, .slice AW nW cW, .bool mt]) := ((Blk.new' rfl).ext (ext1 _ _)).ext he1
  have HD1 : Hid (Blk 43 w1 (w.heap.size + 1) [.int .i64 dx, .int .i64 dy]) := (Blk.new' (by simp)).ext he1
  have HX1 := Lib.hid ((((Ext.refl w).alloc _).alloc _).trans he1)
  clear he1
  cases b
  · clear hb
    go_wp2_with fail
    refine (awake_any _).mono ?_
    rintro e w2 ⟨rfl, he2⟩
    go_wp2_with fail
    go_ret
    exact ⟨rfl, HX1.out.trans he2⟩
  have HLT := Lib.hid (hb rfl); clear hb
  have h20 : nE ≤ 20 := by rw [← HLE.out]; exact HLT.out.e
  obtain ⟨s0, s1⟩ := blk2 HD1.out
  go_wp2_with fail
  refine (rwithinK_any (dx, dy) _).mono ?_
  rintro e w2 ⟨b, rfl, he2⟩
  have HX2 := Lib.hid (HX1.out.trans he2); have HB2 := Lib.hid (HB1.out.ext he2); have HD2 := Lib.hid (HD1.out.ext he2)
  clear s0 s1 he2
  cases b
  · go_wp2_with fail
    refine (awake_any _).mono ?_
    rintro e w3 ⟨rfl, he3⟩
    go_wp2_with fail
    go_ret
    exact ⟨rfl, HX2.out.trans he3⟩
  obtain ⟨p0, p1, p2, p3, p4, p5, p6⟩ := blk7 HB2.out
  have hpl : w.heap.size < w2.heap.size := HB2.out.lt
  go_wp2_with fail
  refine wp_at fun W3 hW3 => ?_
  have hQ3 : Blk 27 W3 w2.heap.size [.string nm, .slice AE nE cE, .int .i64 gr, .slice AN nN cN, .slice none 0 0, .slice AW nW cW, .bool mt] := by rw [hW3]; exact Blk.new' rfl
  have hx3 : Ext w2 W3 := by rw [hW3]; exact (Ext.refl _).alloc _
  clear hW3 p0 p1 p2 p3 p4 p5 p6
  go_loopw [8] (fun i wr => ∃ (k : Nat) (v : Value), k ≤ nE ∧ i = .int .i64 k ∧ Blk 27 wr w2.heap.size [.string nm, .slice AE nE cE, .int .i64 gr, .slice AN nN cN, v, .slice AW nW cW, .bool mt] ∧ OwnT 43 wr w2.heap.size v (List.replicate k (dx, dy)) ∧ Ext w2 wr) (fun i _ => nE - (intOf i).toNat)
  case atStart => exact ⟨0, _, Nat.zero_le _, rfl, hQ3, World.ownsRow_nil _ _ _ _, hx3⟩
  case round =>
    clear hQ3 hx3
    obtain ⟨k, v, hk, rfl, hQ, hO, hx⟩ := hrel
    obtain ⟨VA, vc, hvf⟩ := OwnT.form2 hO
    subst hvf
    obtain ⟨LK, hLK⟩ : ∃ LK, LK = List.replicate k ((dx, dy) : Spot) := ⟨_, rfl⟩
    rw [← hLK] at hO hQ
    have hLKl : LK.length = k := by rw [hLK, List.length_replicate]
    rw [hLKl] at hQ
    have HLKL := Lib.hid hLKl
    have HLK := Lib.hid hLK
    clear hLK hLKl
    have HQ := Lib.hid hQ; have HO := Lib.hid hO; have HX := Lib.hid hx; clear hQ hO hx
    have p1 := (HB2.out.ext HX.out).cell 1
    simp only [List.getElem?_cons_succ, List.getElem?_cons_zero] at p1
    by_cases hlt : k < nE
    · obtain ⟨e0, e1⟩ := blk2 (HD2.out.ext HX.out)
      have q4 := HQ.out.cell 4
      have fq4 := HQ.out.frozen 4
      simp only [List.getElem?_cons_succ, List.getElem?_cons_zero] at q4
      have HW : Hid (Ext wr (wr.alloc (.cells #[.int .i64 dx, .int .i64 dy] 43))) := (Ext.refl _).alloc _
      have HOW : Hid ((wr.alloc (.cells #[.int .i64 dx, .int .i64 dy] 43)).ownsRow w2.heap.size 43 2 (.slice VA k vc) k (scells LK)) := by
        have h := own_ext HO.out HW.out
        rw [HLKL.out] at h
        exact h
      have HQW := Lib.hid (HQ.out.ext HW.out)
      have HOK : Hid (wr.ownsRow w2.heap.size 43 2 (.slice VA k vc) k (scells LK)) := by
        have h := HO.out
        unfold OwnT at h
        rw [HLKL.out] at h
        exact h
      have HNE : Hid (Value.ownBlock (.slice VA k vc) ≠ some w2.heap.size) := own_blk_ne HOK.out HQ.out (by decide)
      have hql : w2.heap.size < wr.heap.size := HQ.out.lt
      go_wp2_with (at_builtin; refine wpList_append_lies _ rfl (.tmp 36) (.tmp 38) 24 rfl w2.heap.size 43 i0 (.agg #[.int .i64 0, .int .i64 0]) 2 16 Try.underlying24 hi0 hz0 hz1 hz2 rfl (by decide) (.slice VA k vc) k (scells LK) rfl HOW.out ⟨wr.heap.size, 0, none⟩ 1 1 [.int .i64 dx, .int .i64 dy] rfl ?c1 ?c2 ?c3 ?c4 ?c5 ?c6 ?c7 (wr.heap.size + 1) ?c8 ?_)
      case c1 => rfl
      case c2 => exact World.news_of_block (cs := #[.int .i64 dx, .int .i64 dy]) (t := 43) (fr := (0, 0)) (heap_alloc_new wr _)
      case c3 => simp [Value.oneCell']
      case c4 => omega
      case c5 => unfold maxLen; omega
      case c6 => omega
      case c7 => simp; omega
      case c8 => simp
      intro gg cap wn hown1 hgrow hat hltn
      have y4 := (World.cell?_of_block (a := ⟨w2.heap.size, 4, none⟩) (hgrow.block _ HQW.out.lt (Ne.symm HNE.out))).trans (HQW.out.cell 4)
      have yf := (World.frozen?_of_block (a := ⟨w2.heap.size, 4, none⟩) (hgrow.block _ HQW.out.lt (Ne.symm HNE.out))).trans (HQW.out.frozen 4)
      simp only [List.getElem?_cons_succ, List.getElem?_cons_zero] at y4
      have HFIN := Lib.hid (corn_fin (L := LK ++ [(dx, dy)]) HQW.out HNE.out hgrow (by rw [List.length_append, scells_append, HLKL.out]; exact hown1) (HX.out.trans HW.out) (fun g hg => own_ge HOK.out hg))
      clear hown1 hgrow hat hltn q4 fq4 e0 e1 p1
      go_wp2_with fail
      go_roundw
      case rel =>
        refine ⟨k + 1, .slice (some ⟨gg, 0, none⟩) (k + 1) cap, by omega, by go_num, ?_⟩
        rw [List.replicate_succ', ← HLK.out]
        exact HFIN.out
      case measure => simp [intOf]; omega
    · obtain rfl : k = nE := by omega
      have HSP : Hid (SpotsAt wr VA (List.replicate p.es.length ((dx, dy) : Spot))) := by
        show SpotsAt _ _ _
        rw [HLE.out, ← HLK.out]
        exact HO.out.plain.2
      obtain ⟨wq, rfl⟩ : ∃ wq : World, wq = wr := ⟨_, rfl⟩
      have HXw := Lib.hid (HX2.out.trans HX.out)
      have HDq := Lib.hid (HD2.out.ext HX.out)
      clear HO HLK HLKL
      have HZ0 : Hid (plE (mvPc p (dx, dy)) m = 0 → plE (mvPc p (dx, dy)) 0 = 0) := fun h => plE_zero.2 (plV_zero (plE_zero.1 h)).1
      have HPL : Hid (plE (mvPc p (dx, dy)) m = 0 → plL (mvPc p (dx, dy)) m = plL (mvPc p (dx, dy)) 0) := fun h => mv_pl (plE_zero.1 h)
      have HSL : Hid (plE (mvPc p (dx, dy)) m = 0 → spL (mvPc p (dx, dy)) m = (spL (mvPc p (dx, dy)) 0).map (moveS (mulS m (dx, dy)))) := fun h => mv_sp (plE_zero.1 h)
      have HL1 : Hid ((plL (mvPc p (dx, dy)) 0).length = nN) := by show _ = _; rw [plL_len]; exact HLN.out
      have HL2 : Hid ((spL (mvPc p (dx, dy)) 0).length = nN) := by show _ = _; rw [spL_len]; exact HLN.out
      have HN16 : Hid (plE (mvPc p (dx, dy)) m = 0 → nN ≤ 16) := fun h => by rw [← HLN.out]; exact (plE_zero.1 h).n
      generalize mvPc p (dx, dy) = Q at H2 H3 HZ0 HPL HSL HL1 HL2 HN16
      obtain ⟨q0, q1, q2, q3, q4, q5, q6⟩ := blk7 HQ.out
      go_wp2_with fail
      refine (H2.out VA vc m _ HXw.out HSP.out).mono ?_
      rintro e w4 ⟨v4, rfl, hv4, hv4', he4⟩
      have HX4 := Lib.hid (HXw.out.trans he4); have HQ4 := Lib.hid (HQ.out.ext he4); have HD4 := Lib.hid (HDq.out.ext he4); have HSP4 := Lib.hid (HSP.out.ext he4)
      clear q0 q1 q2 q3 q4 q5 q6 he4 p1
      have hf4 : ∃ A n c, v4 = .slice A n c := by
        rcases Classical.em (plE Q m = 0) with h | h
        · obtain ⟨A, c, e, _⟩ := OwnI.slice' (n := _) (hv4 h) rfl; exact ⟨_, _, _, e⟩
        · exact ⟨_, _, _, hv4' h⟩
      obtain ⟨A4, n4, c4', hvf⟩ := hf4
      subst hvf
      have HV4 := Lib.hid hv4; clear hv4 hv4'
      obtain ⟨q0, q1, q2, q3, q4, q5, q6⟩ := blk7 HQ4.out
      go_wp2_with fail
      refine (H2.out VA vc 0 _ HX4.out HSP4.out).mono ?_
      rintro e w5 ⟨v5, rfl, hv5, hv5', he5⟩
      have HX5 := Lib.hid (HX4.out.trans he5); have HQ5 := Lib.hid (HQ4.out.ext he5); have HD5 := Lib.hid (HD4.out.ext he5); have HSP5 := Lib.hid (HSP4.out.ext he5); have HE5 := Lib.hid he5
      clear q0 q1 q2 q3 q4 q5 q6 he5
      have hf5 : ∃ A n c, v5 = .slice A n c := by
        rcases Classical.em (plE Q 0 = 0) with h | h
        · obtain ⟨A, c, e, _⟩ := OwnI.slice' (n := _) (hv5 h) rfl; exact ⟨_, _, _, e⟩
        · exact ⟨_, _, _, hv5' h⟩
      obtain ⟨A5, n5, c5', hvf⟩ := hf5
      subst hvf
      have HV5 := Lib.hid hv5; clear hv5 hv5'
      obtain ⟨q0, q1, q2, q3, q4, q5, q6⟩ := blk7 HQ5.out
      go_wp2_with fail
      refine (H3.out VA vc m _ HX5.out HSP5.out).mono ?_
      rintro e w6 ⟨v6, rfl, hv6, hv6', he6⟩
      have HX6 := Lib.hid (HX5.out.trans he6); have HQ6 := Lib.hid (HQ5.out.ext he6); have HD6 := Lib.hid (HD5.out.ext he6); have HSP6 := Lib.hid (HSP5.out.ext he6); have HE6 := Lib.hid he6
      clear q0 q1 q2 q3 q4 q5 q6 he6
      have hf6 : ∃ A n c, v6 = .slice A n c := by
        rcases Classical.em (plE Q m = 0) with h | h
        · obtain ⟨A, c, e⟩ := OwnT.form2 (hv6 h); exact ⟨_, _, _, e⟩
        · exact ⟨_, _, _, hv6' h⟩
      obtain ⟨A6, n6, c6', hvf⟩ := hf6
      subst hvf
      have HV6 := Lib.hid hv6; clear hv6 hv6'
      obtain ⟨q0, q1, q2, q3, q4, q5, q6⟩ := blk7 HQ6.out
      go_wp2_with fail
      refine (H3.out VA vc 0 _ HX6.out HSP6.out).mono ?_
      rintro e w7 ⟨v7, rfl, hv7, hv7', he7⟩
      have HX7 := Lib.hid (HX6.out.trans he7); have HD7 := Lib.hid (HD6.out.ext he7); have HE7 := Lib.hid he7
      clear q0 q1 q2 q3 q4 q5 q6 he7
      have hf7 : ∃ A n c, v7 = .slice A n c := by
        rcases Classical.em (plE Q 0 = 0) with h | h
        · obtain ⟨A, c, e⟩ := OwnT.form2 (hv7 h); exact ⟨_, _, _, e⟩
        · exact ⟨_, _, _, hv7' h⟩
      obtain ⟨A7, n7, c7', hvf⟩ := hf7
      subst hvf
      have HV7 := Lib.hid hv7; clear hv7 hv7'
      by_cases hz : plE Q m = 0
      rotate_left
      · have hzb : (plE Q m != 0) = true := by simp [hz]
        generalize plE Q m = E at hzb
        generalize plE Q 0 = F
        have s1 : (E == E) = true := by simp
        have s2 : (F == F) = true := by simp
        clear hz HV4 HV5 HV6 HV7 HZ0 HPL HSL HN16
        go_wp2_with fail
        refine (awake_any _).mono ?_
        rintro e w8 ⟨rfl, he8⟩
        go_wp2_with fail
        go_ret
        exact ⟨rfl, HX7.out.trans he8⟩
      have hz0 := HZ0.out hz
      have HO4 := HV4.out hz; have HO5 := HV5.out hz0; have HO6 := HV6.out hz; have HO7 := HV7.out hz0
      rw [HPL.out hz] at HO4
      rw [HSL.out hz] at HO6
      have h16 := HN16.out hz
      rw [hz, hz0]
      clear HV4 HV5 HV6 HV7 HZ0 HPL HSL HN16 hz hz0
      generalize plL Q 0 = LP at HO4 HO5 HL1
      generalize spL Q 0 = LS at HO6 HO7 HL2
      have hn4 : nN = n4 := HL1.out.symm.trans (OwnI.plain HO4).2.2
      have hn5 : nN = n5 := HL1.out.symm.trans (OwnI.plain HO5).2.2
      have hn6 : nN = n6 := by rw [← HL2.out, ← OwnT.len HO6, List.length_map]
      have hn7 : nN = n7 := by rw [← HL2.out, ← OwnT.len HO7]
      subst hn4
      subst hn5 hn6 hn7
      have HI4 := Lib.hid ((OwnI.plain HO4).2.1.ext ((HE5.out.trans HE6.out).trans HE7.out)); have HI5 := Lib.hid ((OwnI.plain HO5).2.1.ext (HE6.out.trans HE7.out))
      have HS6 := Lib.hid ((OwnT.plain HO6).2.ext HE7.out); have HS7 := Lib.hid (OwnT.plain HO7).2
      clear HO4 HO5 HO6 HO7
      go_wp2_with fail
      refine (sameInts_eq A4 A5 nN c4' c5' LP _ HI4.out HI5.out HL1.out (by omega)).mono ?_
      rintro e w8 ⟨rfl, he8⟩
      have HX8 := Lib.hid (HX7.out.trans he8); have HD8 := Lib.hid (HD7.out.ext he8); have HS6' := Lib.hid (HS6.out.ext he8); have HS7' := Lib.hid (HS7.out.ext he8)
      clear he8
      obtain ⟨e0, e1⟩ := blk2 HD8.out
      have HMU : Hid (mulS m (dx, dy) = (wrap64 (m * dx), wrap64 (m * dy))) := rfl
      go_wp2_with fail
      refine (rmove_any A7 nN c7' LS (wrap64 (m * dx), wrap64 (m * dy)) _ HS7'.out HL2.out (by omega)).mono ?_
      rintro e w9 ⟨v9, rfl, hO9, he9⟩
      obtain ⟨A9, c9, hvf⟩ := OwnT.form2 hO9
      rw [List.length_map, HL2.out] at hvf
      subst hvf
      have HS9 := Lib.hid (OwnT.plain hO9).2
      have HX9 := Lib.hid (HX8.out.trans he9); have HS69 := Lib.hid (HS6'.out.ext he9)
      clear e0 e1 he9 hO9
      have HLM : Hid ((LS.map (moveS (wrap64 (m * dx), wrap64 (m * dy)))).length = nN) := by show _ = _; rw [List.length_map]; exact HL2.out
      have HS69' : Hid (SpotsAt w9 A6 (LS.map (moveS (wrap64 (m * dx), wrap64 (m * dy))))) := by show SpotsAt _ _ _; rw [← HMU.out]; exact HS69.out
      go_wp2_with fail
      refine (R11Same_len A6 A9 nN c6' c9 _ _ _ HS69'.out HS9.out HLM.out HLM.out (by omega)).mono ?_
      rintro e w10 ⟨rfl, he10⟩
      have hdt : decide (LS.map (moveS (wrap64 (m * dx), wrap64 (m * dy))) = LS.map (moveS (wrap64 (m * dx), wrap64 (m * dy)))) = true := decide_eq_true rfl
      rw [hdt]
      clear hdt
      go_wp2_with fail
      refine (awake_any _).mono ?_
      rintro e w11 ⟨rfl, he11⟩
      go_wp2_with fail
      go_ret
      exact ⟨rfl, (HX9.out.trans he10).trans he11⟩
end Go.Proofs.Ytliijigdbpmpaaa
