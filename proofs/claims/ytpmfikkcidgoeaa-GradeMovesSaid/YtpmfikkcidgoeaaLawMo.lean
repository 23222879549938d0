/- GradeMoves returns true -/
import Derived.Test.YtpmfikkcidgoeaaLawBk
import Derived.Test.YtpmfikkcidgoeaaMove
import Derived.Deep.CutRange
namespace Go.Proofs.Ytpmfikkcidgoeaa
open Go.RowKit
theorem map_take_succ' {f : Spot → Spot} {l : List Spot} {k : Nat} (h : k < l.length) : (l.take (k + 1)).map f = (l.take k).map f ++ [f (gS l k)] := by
  rw [take_succ _ _ h, gS_eq h, List.map_append]; rfl
/- behind an append to q.Corners: the row, q's block, what is kept -/
theorem moves_fin {w2 W wn : World} {L : List Spot} {V v : Value} {v0 v1 v2 v3 v4 v5 v6 : Value} (hQ : Blk 27 W w2.heap.size [v0, v1, v2, v3, v4, v5, v6]) (h1 : V.ownBlock ≠ some w2.heap.size) (hg : W.grownBy wn V.ownBlock)
    (ho : wn.ownsRow w2.heap.size 44 2 v L.length (scells L)) (hx : Ext w2 W) (hb : ∀ g, V.ownBlock = some g → w2.heap.size ≤ g) :
    Blk 27 (wn.setCell ⟨w2.heap.size, 4, none⟩ v) w2.heap.size [v0, v1, v2, v3, v, v5, v6] ∧ OwnT 44 (wn.setCell ⟨w2.heap.size, 4, none⟩ v) w2.heap.size v L ∧ Ext w2 (wn.setCell ⟨w2.heap.size, 4, none⟩ v) := by
  have hQ' : Blk 27 wn w2.heap.size [v0, v1, v2, v3, v4, v5, v6] := (hg.block _ hQ.lt (Ne.symm h1)).trans hQ
  exact ⟨hQ'.set 4 v, own_set ho (own_blk_ne ho hQ' (by decide)) v, (hx.grown hg hb).setCell (by simp) v⟩
set_option maxRecDepth 100000 in
set_option maxHeartbeats 6400000 in
theorem moves_any (nm : ByteArray) (AE AN AC AW : Option Addr) (nE cE nN cN nC cC nW cW : Nat) (gr : Int) (d : Spot) (m : Int) (mt : Bool) (es : List Edge) (cs : List Spot) (ws : List Int) (ns : List Spot) (w : World) (hp : PAt w AE AN AC AW nE cE nN cN nC cC nW cW es cs ws ns) :
    Calls Try.prog 8 #[.agg #[.string nm, .slice AE nE cE, .int .i64 gr, .slice AN nN cN, .slice AC nC cC, .slice AW nW cW, .bool mt], SV d, .int .i64 m] w fun e w' => e = .returned (.bool true) ∧ Ext w w' := by
  obtain ⟨dx, dy⟩ := d
  have HP := Lib.hid hp; clear hp
  obtain ⟨i0, hi0, hz0, hz1, hz2⟩ := info_parts spot_info
  go_enter Try.func8, Try.ntmps8
  go_wp2_with fail
  refine (light_any nm AE AN AC AW nE cE nN cN nC cC nW cW gr mt es _ 40 (by omega) (HP.out.e.ext (((Ext.refl _).alloc _).alloc _)) HP.out.le).mono ?_
  rintro e w1 ⟨b, rfl, he1, hb⟩
  have HB1 : Hid (Blk 27 w1 w.heap.size [.string nm, .slice AE nE cE, .int .i64 gr, .slice AN nN cN, .slice AC nC cC, .slice AW nW cW, .bool mt]) := ((Blk.new' rfl).ext ((Ext.refl _).alloc _)).ext he1
  have HD1 : Hid (Blk 44 w1 (w.heap.size + 1) [.int .i64 dx, .int .i64 dy]) := (Blk.new' (by simp)).ext he1
  have HX1 := Lib.hid ((((Ext.refl w).alloc _).alloc _).trans he1)
  clear he1
  cases b
  · clear hb
    go_wp2_with fail
    refine (example_any _).mono ?_
    rintro e w2 ⟨rfl, he2⟩
    go_wp2_with fail
    go_ret
    exact ⟨rfl, HX1.out.trans he2⟩
  obtain ⟨hl1, hl2, hl3, hl4, hl5⟩ := hb rfl
  rw [HP.out.le] at hl1
  have HL5 := Lib.hid hl5
  clear hb hl5
  have HPr := Lib.hid (HP.out.ext HX1.out)
  obtain ⟨p0, p1, p2, p3, p4, p5, p6⟩ := blk7 HB1.out
  go_wp2_with fail
  refine (graded_any nm AE AN AC AW nE cE nN cN nC cC nW cW gr m mt es cs _ HPr.out.e HPr.out.le HPr.out.ce HPr.out.ce' HPr.out.c HPr.out.lc HPr.out.nc).mono ?_
  rintro e w2 ⟨v2, rfl, hv2, hv2', he2⟩
  have HX2 := Lib.hid (HX1.out.trans he2)
  have HB2 := Lib.hid (HB1.out.ext he2)
  have HD2 := Lib.hid (HD1.out.ext he2)
  have HP2 := Lib.hid (HP.out.ext HX2.out)
  have HV2 := Lib.hid hv2
  clear p0 p1 p2 p3 p4 p5 p6 hv2 he2
  obtain ⟨p0, p1, p2, p3, p4, p5, p6⟩ := blk7 HB2.out
  have hvf : ∃ A2 n2 c2, v2 = .slice A2 n2 c2 := by
    rcases Classical.em (gradedR es cs m = 0) with h | h
    · obtain ⟨A, c, e, _⟩ := (HV2.out h).slice; exact ⟨_, _, _, e⟩
    · exact ⟨_, _, _, hv2' h⟩
  obtain ⟨A2, n2, c2, hvf⟩ := hvf
  subst hvf
  clear hv2'
  have hpl : w.heap.size < w2.heap.size := HB2.out.lt
  go_wp2_with fail
  refine wp_at fun W3 hW3 => ?_
  have hQ3 : Blk 27 W3 w2.heap.size [.string nm, .slice AE nE cE, .int .i64 gr, .slice AN nN cN, .slice none 0 0, .slice AW nW cW, .bool mt] := by rw [hW3]; exact Blk.new' rfl
  have hx3 : Ext w2 W3 := by rw [hW3]; exact (Ext.refl _).alloc _
  clear hW3 p0 p1 p2 p3 p4 p5 p6
  go_loopw [33] (fun i wr => ∃ (k : Nat) (v : Value), k ≤ nC ∧ i = .int .i64 k ∧ Blk 27 wr w2.heap.size [.string nm, .slice AE nE cE, .int .i64 gr, .slice AN nN cN, v, .slice AW nW cW, .bool mt] ∧ OwnT 44 wr w2.heap.size v ((cs.take k).map negS) ∧ Ext w2 wr) (fun i _ => nC - (intOf i).toNat)
  case atStart => exact ⟨0, _, Nat.zero_le _, rfl, hQ3, World.ownsRow_nil _ _ _ _, hx3⟩
  case round =>
    clear hQ3 hx3
    obtain ⟨k, v, hk, rfl, hQ, hO, hx⟩ := hrel
    obtain ⟨VA, vc, hvf⟩ := OwnT.form2 hO
    subst hvf
    obtain ⟨LK, hLK⟩ : ∃ LK, LK = (cs.take k).map negS := ⟨_, rfl⟩
    rw [← hLK] at hO hQ
    have hLKl : LK.length ≤ 20 := by rw [hLK, List.length_map, List.length_take]; omega
    have HLK := Lib.hid hLK
    clear hLK
    have HQ := Lib.hid hQ; have HO := Lib.hid hO; have HX := Lib.hid hx; clear hQ hO hx
    by_cases hlt : k < nC
    · obtain ⟨b, off, rfl, i0', i1'⟩ := (HP2.out.c.ext HX.out).g (k := k) (by rw [HP.out.lc]; exact hlt)
      have q4 := HQ.out.cell 4
      have fq4 := HQ.out.frozen 4
      simp only [List.getElem?_cons_succ, List.getElem?_cons_zero] at q4
      have hql : w2.heap.size < wr.heap.size := HQ.out.lt
      have hbl : b < wr.heap.size := cell_lt i0'
      have HW : Hid (Ext wr ((wr.alloc (.cells #[.int .i64 (gS cs k).1, .int .i64 (gS cs k).2] 44)).alloc (.cells #[.int .i64 (wrap64 (-(gS cs k).1)), .int .i64 (wrap64 (-(gS cs k).2))] 44))) := ((Ext.refl _).alloc _).alloc _
      have HOW := Lib.hid (own_ext HO.out HW.out)
      have HQW := Lib.hid (HQ.out.ext HW.out)
      have HNE : Hid (Value.ownBlock (.slice VA LK.length vc) ≠ some w2.heap.size) := own_blk_ne HO.out HQ.out (by decide)
      go_wp2_with (at_builtin; refine wpList_append_lies _ rfl (.tmp 38) (.tmp 46) 24 rfl w2.heap.size 44 i0 (.agg #[.int .i64 0, .int .i64 0]) 2 16 Try.underlying24 hi0 hz0 hz1 hz2 rfl (by decide) (.slice VA LK.length vc) LK.length (scells LK) rfl HOW.out ⟨wr.heap.size + 1, 0, none⟩ 1 1 [.int .i64 (wrap64 (-(gS cs k).1)), .int .i64 (wrap64 (-(gS cs k).2))] rfl ?c1 ?c2 ?c3 ?c4 ?c5 ?c6 ?c7 (wr.heap.size + 1 + 1) ?c8 ?_)
      case c1 => rfl
      case c2 => exact World.news_of_block (cs := #[.int .i64 (wrap64 (-(gS cs k).1)), .int .i64 (wrap64 (-(gS cs k).2))]) (t := 44) (fr := (0, 0)) (by have := heap_alloc_new (wr.alloc (.cells #[.int .i64 (gS cs k).1, .int .i64 (gS cs k).2] 44)) (.cells #[.int .i64 (wrap64 (-(gS cs k).1)), .int .i64 (wrap64 (-(gS cs k).2))] 44); simpa using this)
      case c3 => simp [Value.oneCell']
      case c4 => omega
      case c5 => unfold maxLen; omega
      case c6 => omega
      case c7 => simp; omega
      case c8 => simp
      intro gg cap wn hown1 hgrow hat hltn
      have y4 := (World.cell?_of_block (a := ⟨w2.heap.size, 4, none⟩) (hgrow.block _ HQW.out.lt (Ne.symm HNE.out))).trans (HQW.out.cell 4)
      have yf := (World.frozen?_of_block (a := ⟨w2.heap.size, 4, none⟩) (hgrow.block _ HQW.out.lt (Ne.symm HNE.out))).trans (HQW.out.frozen 4)
      simp only [List.getElem?_cons_succ, List.getElem?_cons_zero] at y4
      have HFIN := Lib.hid (moves_fin (L := LK ++ [negS (gS cs k)]) HQW.out HNE.out hgrow (by rw [List.length_append, scells_append]; exact hown1) (HX.out.trans HW.out) (fun g hg => own_ge HO.out hg))
      clear hown1 hgrow hat hltn q4 fq4 i0' i1'
      go_wp2_with fail
      go_roundw
      case rel =>
        refine ⟨k + 1, .slice (some ⟨gg, 0, none⟩) (LK.length + 1) cap, by omega, by go_num, ?_⟩
        rw [map_take_succ' (by rw [HP.out.lc]; exact hlt), ← HLK.out]
        exact HFIN.out
      case measure => simp [intOf]; omega
    · obtain rfl : k = nC := by omega
      have hLKe : LK = cs.map negS := by rw [HLK.out, List.take_of_length_le (by rw [HP.out.lc]; omega)]
      have HLKE := Lib.hid hLKe; clear hLKe
      have hLKn : LK.length = k := by rw [HLKE.out, List.length_map, HP.out.lc]
      have HLKN := Lib.hid hLKn; clear hLKn
      go_upto_if 51 with fail
      go_cut [] from 50 (fun wc => ∃ v', Blk 27 wc w2.heap.size [.string nm, .slice AE nE cE, .int .i64 gr, .slice AN nN cN, v', .slice AW nW cW, .bool mt] ∧ Ext w2 wc)
      case first =>
        by_cases hz : gradedR es cs m = 0
        · have hzb : (gradedR es cs m == 0) = true := by simp [hz]
          have hok := (gradedR_iff es cs m).1 hz
          have hm0 := hok.m0; have hm1 := hok.m1
          have HNEG := Lib.hid (graded_neg hok)
          obtain ⟨A2', c2', hvv, hE2, _, _⟩ := (HV2.out hz).slice' (n := nE) (by rw [gradedE_len, HP.out.le])
          injection hvv with e1 e2 e3
          have e1' := e1.symm; have e2' := e2.symm; have e3' := e3.symm
          clear e1 e2 e3
          subst e1' e2' e3'
          have HE2 := Lib.hid hE2
          clear hE2 hok hz HV2
          obtain ⟨q0, q1, q2, q3, q4, q5, q6⟩ := blk7 HQ.out
          have hql : w2.heap.size < wr.heap.size := HQ.out.lt
          have HSP : Hid (SpotsAt wr VA (cs.map negS)) := by
            have h := HO.out.plain.2
            rw [HLKE.out] at h
            exact h
          have HLQ : Hid ((cs.map negS).length = LK.length) := congrArg List.length HLKE.out.symm
          have HLB : Hid (LK.length ≤ 9223372036854775807) := Nat.le_trans hLKl (by omega)
          go_wp2_with fail
          refine (graded_any nm AE AN VA AW nE cE nN cN LK.length vc nW cW gr (-m) mt es (cs.map negS) wr (HP2.out.e.ext HX.out) HP.out.le HP.out.ce HP.out.ce' HSP.out HLQ.out HLB.out).mono ?_
          rintro e w4 ⟨v4, rfl, hv4, _, he4⟩
          have hv4 := hv4 HNEG.out.1
          rw [HNEG.out.2] at hv4
          rw [HNEG.out.1]
          obtain ⟨A4, c4, hvv, hE4, _, _⟩ := hv4.slice' (n := nE) (by rw [gradedE_len, HP.out.le])
          subst hvv
          have HE4 := Lib.hid hE4; have HX4 := Lib.hid he4
          clear hE4 hv4 he4 q0 q1 q2 q3 q4 q5 q6
          go_wp2_with fail
          refine (sameEdges_eq A2' A4 nE c2' c4 (gradedE es cs m) _ (HE2.out.ext (HX.out.trans HX4.out)) HE4.out (by rw [gradedE_len, HP.out.le]) (by omega)).mono ?_
          rintro e w5 ⟨rfl, he5⟩
          go_wp2_with fail
          go_meet
          case rel => exact ⟨_, (HQ.out.ext HX4.out).ext he5, (HX.out.trans HX4.out).trans he5⟩
        · have hzb : (gradedR es cs m == 0) = false := by simp [hz]
          go_wp2_with fail
          go_meet
          case rel => exact ⟨_, HQ.out, HX.out⟩
      case rest =>
        clear HQ HO HX HLK HLKE HLKN
        obtain ⟨v', hQ', hx'⟩ := hcut
        have HQ5 := Lib.hid hQ'; have HX5 := Lib.hid hx'; clear hQ' hx' hLKl
        have q4 := HQ5.out.cell 4
        have fq4 := HQ5.out.frozen 4
        have p4 := (HB2.out.ext HX5.out).cell 4
        simp only [List.getElem?_cons_succ, List.getElem?_cons_zero] at q4 p4
        have hql : w2.heap.size < wc.heap.size := HQ5.out.lt
        go_wp2_with fail
        refine wp_at fun W6 hW6 => ?_
        have hQ6 : Blk 27 W6 w2.heap.size [.string nm, .slice AE nE cE, .int .i64 gr, .slice AN nN cN, .slice none 0 0, .slice AW nW cW, .bool mt] := by rw [hW6]; exact HQ5.out.set 4 _
        have hx6 : Ext w2 W6 := by rw [hW6]; exact HX5.out.setCell (by simp) _
        clear hW6 q4 fq4 p4 hql
        go_loopw [71] (fun i wr => ∃ (j : Nat) (v : Value), j ≤ k ∧ i = .int .i64 j ∧ Blk 27 wr w2.heap.size [.string nm, .slice AE nE cE, .int .i64 gr, .slice AN nN cN, v, .slice AW nW cW, .bool mt] ∧ OwnT 44 wr w2.heap.size v ((cs.take j).map fun _ => (dx, dy)) ∧ Ext w2 wr) (fun i _ => k - (intOf i).toNat)
        case atStart => exact ⟨0, _, Nat.zero_le _, rfl, hQ6, World.ownsRow_nil _ _ _ _, hx6⟩
        case round =>
          clear hQ6 hx6
          obtain ⟨wq, rfl⟩ : ∃ wq : World, wq = wr := ⟨_, rfl⟩
          obtain ⟨j, v, hj, rfl, hQ, hO, hx⟩ := hrel
          obtain ⟨VB, vd, hvf⟩ := OwnT.form2 hO
          subst hvf
          obtain ⟨LJ, hLJ⟩ : ∃ LJ, LJ = (cs.take j).map fun _ => ((dx, dy) : Spot) := ⟨_, rfl⟩
          rw [← hLJ] at hO hQ
          have hLJl : LJ.length ≤ 20 := by rw [hLJ, List.length_map, List.length_take]; omega
          have HLJ := Lib.hid hLJ
          clear hLJ
          have HQ := Lib.hid hQ; have HO := Lib.hid hO; have HX := Lib.hid hx; clear hQ hO hx
          by_cases hlt : j < k
          · have e0 := (HD2.out.ext HX.out).cell 0
            have e1 := (HD2.out.ext HX.out).cell 1
            have q4 := HQ.out.cell 4
            simp only [List.getElem?_cons_succ, List.getElem?_cons_zero] at q4 e0 e1
            have HW : Hid (Ext wq (wq.alloc (.cells #[.int .i64 dx, .int .i64 dy] 44))) := (Ext.refl _).alloc _
            have HOW := Lib.hid (own_ext HO.out HW.out)
            have HQW := Lib.hid (HQ.out.ext HW.out)
            have HNE : Hid (Value.ownBlock (.slice VB LJ.length vd) ≠ some w2.heap.size) := own_blk_ne HO.out HQ.out (by decide)
            have hql : w2.heap.size < wq.heap.size := HQ.out.lt
            go_wp2_with (at_builtin; refine wpList_append_lies _ rfl (.tmp 74) (.tmp 76) 24 rfl w2.heap.size 44 i0 (.agg #[.int .i64 0, .int .i64 0]) 2 16 Try.underlying24 hi0 hz0 hz1 hz2 rfl (by decide) (.slice VB LJ.length vd) LJ.length (scells LJ) rfl HOW.out ⟨wq.heap.size, 0, none⟩ 1 1 [.int .i64 dx, .int .i64 dy] rfl ?c1 ?c2 ?c3 ?c4 ?c5 ?c6 ?c7 (wq.heap.size + 1) ?c8 ?_)
            case c1 => rfl
            case c2 => exact World.news_of_block (cs := #[.int .i64 dx, .int .i64 dy]) (t := 44) (fr := (0, 0)) (heap_alloc_new wq _)
            case c3 => simp [Value.oneCell']
            case c4 => omega
            case c5 => unfold maxLen; omega
            case c6 => omega
            case c7 => simp; omega
            case c8 => simp
            intro gg cap wn hown1 hgrow hat hltn
            have y4 := (World.cell?_of_block (a := ⟨w2.heap.size, 4, none⟩) (hgrow.block _ HQW.out.lt (Ne.symm HNE.out))).trans (HQW.out.cell 4)
            have yf := (World.frozen?_of_block (a := ⟨w2.heap.size, 4, none⟩) (hgrow.block _ HQW.out.lt (Ne.symm HNE.out))).trans (HQW.out.frozen 4)
            simp only [List.getElem?_cons_succ, List.getElem?_cons_zero] at y4
            have HFIN := Lib.hid (moves_fin (L := LJ ++ [(dx, dy)]) HQW.out HNE.out hgrow (by rw [List.length_append, scells_append]; exact hown1) (HX.out.trans HW.out) (fun g hg => own_ge HO.out hg))
            clear hown1 hgrow hat hltn q4 e0 e1
            go_wp2_with fail
            go_roundw
            case rel =>
              refine ⟨j + 1, .slice (some ⟨gg, 0, none⟩) (LJ.length + 1) cap, by omega, by go_num, ?_⟩
              rw [map_take_succ' (by rw [HP.out.lc]; exact hlt), ← HLJ.out]
              exact HFIN.out
            case measure => simp [intOf]; omega
          · obtain rfl : j = k := by omega
            have hLJe : LJ = cs.map fun _ => ((dx, dy) : Spot) := by rw [HLJ.out, List.take_of_length_le (by rw [HP.out.lc]; omega)]
            have HSP : Hid (SpotsAt wq VB (cs.map fun _ => ((dx, dy) : Spot))) := by
              have h := HO.out.plain.2
              rw [hLJe] at h
              exact h
            have HLQ : Hid ((cs.map fun _ => ((dx, dy) : Spot)).length = LJ.length) := congrArg List.length hLJe.symm
            have HLB : Hid (LJ.length ≤ 9223372036854775807) := Nat.le_trans hLJl (by omega)
            clear hLJe
            obtain ⟨q0, q1, q2, q3, q4, q5, q6⟩ := blk7 HQ.out
            go_wp2_with fail
            refine (graded_any nm AE AN VB AW nE cE nN cN LJ.length vd nW cW gr m mt es (cs.map fun _ => ((dx, dy) : Spot)) wq (HP2.out.e.ext HX.out) HP.out.le HP.out.ce HP.out.ce' HSP.out HLQ.out HLB.out).mono ?_
            rintro e w4 ⟨v4, rfl, hv4, hv4', he4⟩
            clear q0 q1 q2 q3 q4 q5 q6
            have HXw := Lib.hid ((HX2.out.trans HX.out).trans he4)
            have HX4 := Lib.hid (HX.out.trans he4)
            clear he4
            obtain ⟨CD, hCD⟩ : ∃ CD, CD = cs.map fun _ => ((dx, dy) : Spot) := ⟨_, rfl⟩
            rw [← hCD] at hv4 hv4' ⊢
            have HCD := Lib.hid hCD; clear hCD
            by_cases hz : gradedR es CD m = 0
            rotate_left
            · have hzb : (gradedR es CD m != 0) = true := by simp [hz]
              clear hv4 hv4' hz
              go_wp2_with fail
              refine (example_any _).mono ?_
              rintro e w5 ⟨rfl, he5⟩
              go_wp2_with fail
              go_ret
              exact ⟨rfl, HXw.out.trans he5⟩
            have HOK := Lib.hid ((gradedR_iff es CD m).1 hz)
            have hvv := hv4 hz
            rw [hz]
            clear hv4 hv4' hz
            obtain ⟨A4, c4, hvf, hE4, _, _⟩ := hvv.slice' (n := nE) (by rw [gradedE_len, HP.out.le])
            subst hvf
            have HE4 := Lib.hid hE4; clear hE4 hvv
            have HB4 := Lib.hid (HB2.out.ext HX4.out)
            have HD4 := Lib.hid (HD2.out.ext HX4.out)
            have p1 := HB4.out.cell 1
            simp only [List.getElem?_cons_succ, List.getElem?_cons_zero] at p1
            go_wp2_with fail
            clear p1
            go_loopw [98] (fun i wr => ∃ l : Nat, l ≤ nE ∧ i = .int .i64 l ∧ Ext w4 wr) (fun i _ => nE - (intOf i).toNat)
            case atStart => exact ⟨0, Nat.zero_le _, rfl, Ext.refl _⟩
            case round =>
              obtain ⟨wt, rfl⟩ : ∃ wt : World, wt = wr := ⟨_, rfl⟩
              obtain ⟨l, hl, rfl, hx⟩ := hrel
              have HXt := Lib.hid hx; clear hx
              by_cases hlt2 : l < nE
              · obtain ⟨b, off, Lx, cLx, rfl, hc0, hc1, hS, hcL, hcL'⟩ := (HP2.out.e.ext (HX4.out.trans HXt.out)).g (k := l) (by rw [HP.out.le]; exact hlt2)
                obtain ⟨b2, off2, Ly, cLy, rfl, hd0, hd1, hS2, hcL2, hcL2'⟩ := (HE4.out.ext HXt.out).g (k := l) (by rw [gradedE_len, HP.out.le]; exact hlt2)
                have hll : (gE es l).2.length ≤ 40 := (HL5.out l (by rw [HP.out.le]; exact hlt2)).1
                have heq : (gE (gradedE es CD m) l).2 = (gE es l).2.map (moveS (mulS m (dx, dy))) := graded_equal HOK.out (fun q hq => by rw [HCD.out] at hq ⊢; rw [List.length_map] at hq; rw [gS_eq (by simpa using hq)]; simp) (by rw [HP.out.le]; exact hlt2)
                obtain ⟨lx, hlx⟩ : ∃ lx, lx = (gE es l).2 := ⟨_, rfl⟩
                obtain ⟨ly, hly⟩ : ∃ ly, ly = (gE (gradedE es CD m) l).2 := ⟨_, rfl⟩
                rw [← hlx] at hc1 hS hll heq
                rw [← hly] at hd1 hS2 heq
                have hyl : ly.length = lx.length := by rw [heq, List.length_map]
                rw [hyl] at hd1
                have HEQ := Lib.hid heq; have HSx := Lib.hid hS; have HSy := Lib.hid hS2; have HYL := Lib.hid hyl
                clear hlx hly heq hS hS2 hyl hcL hcL' hcL2 hcL2' hd0
                have e0 := (HD4.out.ext HXt.out).cell 0
                have e1 := (HD4.out.ext HXt.out).cell 1
                simp only [List.getElem?_cons_succ, List.getElem?_cons_zero] at e0 e1
                have hb2l : b2 < wt.heap.size := cell_lt hd1
                have hdl : w.heap.size + 1 < wt.heap.size := cell_lt e0
                go_wp2_with fail
                refine wp_at fun W7 hW7 => ?_
                have hx7 : Ext wt W7 := by rw [hW7]; exact (Ext.refl _).alloc _
                have v1 : W7.cell? ⟨wt.heap.size, 1, none⟩ = some (.slice Lx lx.length cLx) := by rw [hW7]; simp [go_sem]
                have d1' := hx7.cell hd1
                have e0' := hx7.cell e0
                have e1' := hx7.cell e1
                have HX7 := Lib.hid hx7
                clear hW7 hx7 hc0 hc1 hd1 e0 e1
                have HDT : Hid (decide (ly = lx.map (moveS (IntKind.i64.wrap (m * dx), IntKind.i64.wrap (m * dy)))) = true) := decide_eq_true (by have h := HEQ.out; unfold mulS at h; simpa only [IntWalk.i64_left] using h)
                have keep : ∀ W1 : World, Ext W7 W1 → (Ext W7 W1 ∧ W1.cell? ⟨b2, off2 + l * 2 + 1, none⟩ = some (.slice Ly lx.length cLy) ∧ W1.cell? ⟨wt.heap.size, 1, none⟩ = some (.slice Lx lx.length cLx) ∧ W1.cell? ⟨w.heap.size + 1, 0, none⟩ = some (.int .i64 dx) ∧ W1.cell? ⟨w.heap.size + 1, 1, none⟩ = some (.int .i64 dy)) := fun W1 hx => ⟨hx, hx.cell d1', hx.cell v1, hx.cell e0', hx.cell e1'⟩
                have KEEP := Lib.hid keep
                have keept : ∀ W W1 : World, (Ext W7 W ∧ W.cell? ⟨b2, off2 + l * 2 + 1, none⟩ = some (.slice Ly lx.length cLy) ∧ W.cell? ⟨wt.heap.size, 1, none⟩ = some (.slice Lx lx.length cLx) ∧ W.cell? ⟨w.heap.size + 1, 0, none⟩ = some (.int .i64 dx) ∧ W.cell? ⟨w.heap.size + 1, 1, none⟩ = some (.int .i64 dy)) → Ext W W1 → (Ext W7 W1 ∧ W1.cell? ⟨b2, off2 + l * 2 + 1, none⟩ = some (.slice Ly lx.length cLy) ∧ W1.cell? ⟨wt.heap.size, 1, none⟩ = some (.slice Lx lx.length cLx) ∧ W1.cell? ⟨w.heap.size + 1, 0, none⟩ = some (.int .i64 dx) ∧ W1.cell? ⟨w.heap.size + 1, 1, none⟩ = some (.int .i64 dy)) := fun W W1 h hx => keep W1 (h.1.trans hx)
                have KEEPT := Lib.hid keept
                have getw : ∀ W : World, (Ext W7 W ∧ W.cell? ⟨b2, off2 + l * 2 + 1, none⟩ = some (.slice Ly lx.length cLy) ∧ W.cell? ⟨wt.heap.size, 1, none⟩ = some (.slice Lx lx.length cLx) ∧ W.cell? ⟨w.heap.size + 1, 0, none⟩ = some (.int .i64 dx) ∧ W.cell? ⟨w.heap.size + 1, 1, none⟩ = some (.int .i64 dy)) → Ext W7 W := fun W h => h.1
                have GETW := Lib.hid getw
                have hlen : lx.length ≤ 9223372036854775807 := by omega
                have HLEN0 : Hid ((lx.map (moveS (IntKind.i64.wrap (m * dx), IntKind.i64.wrap (m * dy)))).length = lx.length) := List.length_map _
                have HLEN := Lib.hid hlen
                clear keep keept getw d1' v1 e0' e1' hlen
                go_region_held3 (fun W => Ext W7 W ∧ W.cell? ⟨b2, off2 + l * 2 + 1, none⟩ = some (.slice Ly lx.length cLy) ∧ W.cell? ⟨wt.heap.size, 1, none⟩ = some (.slice Lx lx.length cLx) ∧ W.cell? ⟨w.heap.size + 1, 0, none⟩ = some (.int .i64 dx) ∧ W.cell? ⟨w.heap.size + 1, 1, none⟩ = some (.int .i64 dy))
                  (first | assumption | exact KEEP.out _ (Ext.drew (Ext.refl _)) | exact KEEPT.out _ _ ‹_› ‹_› | fail)
                  (first
                    | (go_at_call 21; refine (move_any Lx lx.length cLx lx (IntKind.i64.wrap (m * dx), IntKind.i64.wrap (m * dy)) _ (HSx.out.ext (HX7.out.trans (GETW.out _ ‹_›))) rfl (Nat.le_trans hll (by decide))).mono ?_; rintro e wm ⟨vm, rfl, hom, hxm⟩; obtain ⟨Bm, cm, hbm⟩ := hom.form2; rw [List.length_map] at hbm; subst hbm)
                    | (go_at_call 20; refine (R11Same_len Ly Bm lx.length cLy cm ly (lx.map (moveS (IntKind.i64.wrap (m * dx), IntKind.i64.wrap (m * dy)))) _ (HSy.out.ext (HX7.out.trans (GETW.out _ ‹_›))) hom.plain.2 HYL.out HLEN0.out HLEN.out).mono ?_; rintro e wz ⟨rfl, hxz⟩; rw [HDT.out])
                    | fail)
                have hxf : Ext W7 wz := GETW.out _ ‹_›
                go_wp2_with fail
                go_roundw
                case rel => exact ⟨l + 1, by omega, by go_num, (HXt.out.trans HX7.out).trans hxf⟩
                case measure => simp [intOf]; omega
              · obtain rfl : l = nE := by omega
                go_wp2_with fail
                refine (example_any _).mono ?_
                rintro e w5 ⟨rfl, he5⟩
                go_wp2_with fail
                go_ret
                exact ⟨rfl, (HXw.out.trans HXt.out).trans he5⟩
end Go.Proofs.Ytpmfikkcidgoeaa
