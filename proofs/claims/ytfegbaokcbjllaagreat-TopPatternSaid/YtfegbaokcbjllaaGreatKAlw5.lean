/- allowance.Allow -/
import Derived.Test.YtfegbaokcbjllaaGreatKSgW
namespace Go.Proofs.YtfegbaokcbjllaaGreat
open Go.RowKit
theorem cornC_len (v : Spot) (a b : SegW) : 1 ≤ (cornC v a b).length ∧ (cornC v a b).length ≤ 2 := by
 unfold cornC
 split
 ·simp
 ·unfold cornerL
  split <;> simp
theorem addP_fold_len : ∀ (l P : List Spot), (l.foldl addP P).length ≤ P.length + l.length
 |[], P => by simp
 |p :: l, P => by
  have h := addP_fold_len l (addP P p)
  have h2 : (addP P p).length ≤ P.length + 1 := by unfold addP; split <;> simp
  simp only [List.foldl_cons, List.length_cons]
  omega
theorem dropP_stop {f : Nat} {L : List Spot} (h : ¬ (2 ≤ L.length ∧ gS L (L.length - 1) = gS L 0)) : dropP f L = L := by
 cases f with
 |zero => rfl
 |succ f => unfold dropP; rw [if_neg h]
theorem dropP_step {f : Nat} {L : List Spot} (h : 2 ≤ L.length ∧ gS L (L.length - 1) = gS L 0) (hf : L.length ≤ f) : dropP f L = dropP (f - 1) (L.take (L.length - 1)) := by
 cases f with
 |zero => have := h.1; omega
 |succ f =>
  conv => lhs; unfold dropP
  rw [if_pos h]; rfl
theorem own_take {w : World} {base g n cap m : Nat} {L : List Spot} (h : OwnS w base (.slice (some ⟨g, 0, none⟩) n cap) L) (hm : m ≤ L.length) : OwnS w base (.slice (some ⟨g, 0, none⟩) m cap) (L.take m) := by
 rcases Nat.eq_zero_or_pos n with h0 | h0
 ·obtain ⟨A, c, e, _, hc, _⟩ := h.slice
  injection e with e1 e2 e3
  obtain rfl : m = 0 := by omega
  have hl : L.length = 0 := by omega
  have : L = [] := List.eq_nil_of_length_eq_zero hl
  subst this
  subst h0
  simpa using h
 ·obtain ⟨g', R, e, hn, hb, hB, h1, h2, h3⟩ := own_blk h h0
  injection e with e
  injection e with e
  subst e
  have hs : scells L = scells (L.take m) ++ scells (L.drop m) := by rw [← scells_append, List.take_append_drop]
  rw [hs, List.append_assoc] at hB
  unfold OwnS
  have hlt : (L.take m).length = m := by rw [List.length_take]; omega
  rw [hlt]
  refine blk_own hB hb (by rw [scells_length, hlt]) (by omega) h2 ?_
  rw [List.length_append, ← Nat.add_assoc, ← List.length_append, ← hs]
  exact h3
structure AOk (es : List Edge) (ws : List Int) : Prop where
 v : ∀ i, i < (verts es).length → inC (gS (verts es) i)
 s : ∀ i, i < (verts es).length → SgOk (sgP (verts es) (shOf es ws) (segWd es ws es.length) i)
 l : ∀ k, k ≤ (verts es).length → (ptP (verts es) (shOf es ws) (segWd es ws es.length) k).length ≤ 2 * k
def rngE (l : List Spot) : Int := firstE (fun i => if inSB (gS l i) 1048576 = true then 0 else 3) l.length
def alE (es : List Edge) (ws : List Int) : Int :=
 if rngE (ptsA es ws) ≠ 0 then rngE (ptsA es ws) else if pcheck (ptsA es ws) ≠ 0 then pcheck (ptsA es ws) else if sgOf (ptsA es ws) ≠ sgOf (verts es) then 11 else 0
/- a row of spots of the call's own as a slot's value -/
def IsS (n : Nat) (l : List Spot) : Value → World → Prop := fun v w => OwnS w n v l
theorem IsS.kp (n : Nat) (l : List Spot) : Kp (IsS n l) := fun _ _ _ he h => own_ext h he
theorem retS_is {P : Program} {f : FuncId} {args : Array Value} {w : World} {l : List Spot} {n : Nat} (h : Calls P f args w (RetS w l)) (hn : n ≤ w.heap.size) : Calls P f args w (Ret (IsS n l) w) := h.mono fun _ _ h => by
 obtain ⟨v, h1, h2, h3⟩ := h; exact ⟨v, h1, own_base_le h2 hn, h3⟩
def RetAl (w : World) (es : List Edge) (ws : List Int) (e : Ending) (w' : World) : Prop := ∃ v, e = .returned (.tuple #[v, .int .i64 (alE es ws)]) ∧ (alE es ws = 0 → OwnS w' w.heap.size v (ptsA es ws)) ∧ (alE es ws ≠ 0 → v = .slice none 0 0) ∧ Ext w w'
set_option maxRecDepth 100000 in
set_option maxHeartbeats 6400000 in
theorem allow_any (A B : Option Addr) (n c d : Nat) (es : List Edge) (ws : List Int) (w : World) (ha : EdgesAt w A es) (hl : es.length = n) (hnc : n ≤ c) (hc : c ≤ 9223372036854775807) (hb : IntsAt w B ws) (hlb : ws.length = n) (hO : ocheck es = 0) (hW : WOk ws) (hV : VOk (verts es)) (hA : AOk es ws) :
  Calls Tryz.prog 30 #[.slice A n c, .slice B n d] w (RetAl w es ws) := by
 have hok := ocheck_ok hO
 have hn16 : n ≤ 16 := by rw [← hl]; exact hok.2.1
 have HL := Lib.hid hl; have HA := Lib.hid ha; have HB := Lib.hid hb; have HLB := Lib.hid hlb; have HO := Lib.hid hO; have HW := Lib.hid hW; have HV := Lib.hid hV; have HAO := Lib.hid hA
 have HLN := Lib.hid (fun k (hk : k < n) => (⟨by have := (lcheck_len (edge_ok ((firstE_zero _ _).1 hok.2.2 k (by rw [hl]; exact hk)))).1; omega, (lcheck_len (edge_ok ((firstE_zero _ _).1 hok.2.2 k (by rw [hl]; exact hk)))).2⟩ : 1 ≤ (gE es k).2.length ∧ (gE es k).2.length ≤ 40))
 clear hl ha hb hlb hO hW hV hok hA
 obtain ⟨i0, hi0, hz0, hz1, hz2⟩ := info_parts spot_info
 go_enter Tryz.func30, Tryz.ntmps30
 go_wp2_with fail
 refine (shifts_any A B n c d es ws w HA.out HL.out hnc hc HB.out HLB.out HO.out HW.out HV.out).mono ?_
 rintro e w1 ⟨v1, rfl, hv1, he1⟩
 have HX1 := Lib.hid he1
 have HSL := Lib.hid (shOf_len es ws)
 obtain ⟨A1, cap1, rfl, hS1, hcap1, hcap1'⟩ := hv1.slice
 have HS1 := Lib.hid hS1
 clear hv1 hS1 he1
 have h3 := HV.out.n3
 have h40 := HV.out.n40
 obtain ⟨N, hN⟩ : ∃ N, N = (verts es).length := ⟨_, rfl⟩
 rw [HSL.out] at hcap1 ⊢
 rw [← hN] at h3 h40 hcap1 HSL ⊢
 have HNE := Lib.hid hN
 clear hN
 go_wp2_with fail
 refine (polygon_any A n c es w1 (HA.out.ext HX1.out) HL.out hnc hc).mono ?_
 rintro e w2 ⟨v2, rfl, hv2, _, he2⟩
 have hv2 := hv2 HO.out
 rw [HO.out]
 have HX2 := Lib.hid (HX1.out.trans he2); have HS2 := Lib.hid (HS1.out.ext he2)
 obtain ⟨A2, cap2, rfl, hP2, hcap2, hcap2'⟩ := hv2.slice
 have HP2 := Lib.hid hP2
 clear hv2 hP2 he2
 rw [← HNE.out] at hcap2 ⊢
 go_wp2_with fail
 refine (segwd_any A B n c n d es ws w2 (HA.out.ext HX2.out) HL.out (by omega) (HB.out.ext HX2.out) HLB.out (Nat.le_refl _) (by omega) HLN.out).mono ?_
 rintro e w3 ⟨v3, rfl, hv3, he3⟩
 have HX3 := Lib.hid (HX2.out.trans he3); have HS3 := Lib.hid (HS2.out.ext he3); have HP3 := Lib.hid (HP2.out.ext he3)
 obtain ⟨A3, cap3, rfl, hE3, hcap3, hcap3'⟩ := hv3.slice
 have HE3 := Lib.hid hE3
 have HEL : Hid ((segWd es ws n).length = N) := by show _ = _; rw [← HL.out, segWd_vl, HNE.out]
 rw [HEL.out] at hcap3 ⊢
 clear hv3 hE3 he3 HX2 HS2 HP2 HX1 HS1
 have hmk := fun W : World => make_segs N (by omega) W
 go_wp2_with fail
 refine wp_at fun w4 hw4 => ?_
 have HB4 : Hid (BlkG w4 w3.heap.size (List.replicate N ((0, 0), (0, 0), 0))) := by show BlkG _ _ _; rw [hw4, made_five]; exact Blk.new _ _ _
 have HX34 : Hid (Ext w3 w4) := by show Ext _ _; rw [hw4]; exact (Ext.refl _).alloc _
 have HGL : Hid (w.heap.size ≤ w3.heap.size) := HX3.out.size
 clear hw4 hmk
 obtain ⟨G, hG⟩ : ∃ G, G = w3.heap.size := ⟨_, rfl⟩
 have HG3 : Hid (w3.heap.size ≤ G) := Nat.le_of_eq hG.symm
 rw [← hG] at HB4 HGL ⊢
 clear hG
 have HSGP : Hid (∀ k, sgP (verts es) (shOf es ws) (segWd es ws n) k = (addS (gS (verts es) k) (gS (shOf es ws) k), addS (gS (verts es) ((k + 1) % N)) (gS (shOf es ws) k), gI (segWd es ws n) k)) := fun k => by unfold sgP; rw [HNE.out]
 go_loopw [48] (fun i wr => ∃ (k : Nat) (L : List SegW), k ≤ N ∧ i = .int .i64 k ∧ BlkG wr G L ∧ L.length = N ∧ (∀ j, j < k → gG L j = sgP (verts es) (shOf es ws) (segWd es ws n) j) ∧ Ext w3 wr) (fun i _ => N - (intOf i).toNat)
 case atStart => exact ⟨0, _, Nat.zero_le _, rfl, HB4.out, by simp, fun j hj => absurd hj (Nat.not_lt_zero _), HX34.out⟩
 case round =>
  obtain ⟨wi, rfl⟩ : ∃ wi : World, wi = wr := ⟨_, rfl⟩
  obtain ⟨k, LS, hk, rfl, hbl, hll, hls, hxi⟩ := hrel
  have HBL := Lib.hid hbl; have HLL := Lib.hid hll; have HLS := Lib.hid hls; have HXI := Lib.hid hxi
  clear hbl hll hls hxi HX34 HB4
  by_cases hlt : k < N
  ·have hm1 : (k + 1) % N < N := Nat.mod_lt _ (by omega)
   have HSK := Lib.hid (HSGP.out k)
   obtain ⟨bs, os, rfl, hs0, hs1⟩ := (HS3.out.ext HXI.out).g (k := k) (by rw [HSL.out]; exact hlt)
   obtain ⟨bp, op, rfl, hp0, hp1⟩ := (HP3.out.ext HXI.out).g (k := k) (by rw [← HNE.out]; exact hlt)
   obtain ⟨hq0, hq1⟩ := (HP3.out.ext HXI.out).at1 (k := (k + 1) % N) (by rw [← HNE.out]; exact hm1)
   obtain ⟨be, oe, rfl, he0⟩ := (HE3.out.ext HXI.out).g (k := k) (by rw [HEL.out]; exact hlt)
   obtain ⟨ew, hew⟩ : ∃ x, x = gI (segWd es ws n) k := ⟨_, rfl⟩
   obtain ⟨⟨sx, sy⟩, hsh⟩ : ∃ p, p = gS (shOf es ws) k := ⟨_, rfl⟩
   obtain ⟨⟨px, py⟩, hp⟩ : ∃ p, p = gS (verts es) k := ⟨_, rfl⟩
   obtain ⟨⟨qx, qy⟩, hq⟩ : ∃ q, q = gS (verts es) ((k + 1) % N) := ⟨_, rfl⟩
   rw [← hew] at he0
   rw [← hsh] at hs0 hs1
   rw [← hp] at hp0 hp1
   rw [← hq] at hq0 hq1
   rw [← hew, ← hsh, ← hp, ← hq] at HSK
   simp only at hs0 hs1 hp0 hp1 hq0 hq1
   clear hew hsh hp hq
   obtain ⟨hj0, hj1, hj2⟩ := mod_idx k N 1 1 rfl (by omega)
   go_wp2_with fail
   refine wp_at fun w5 hw5 => ?_
   have HX5 : Hid (Ext wi w5) := by show Ext _ _; rw [hw5]; exact (Ext.refl _).alloc _
   have v0 : w5.cell? ⟨wi.heap.size, 0, none⟩ = some (.int .i64 sx) := by rw [hw5]; simp [go_sem]
   have v1 : w5.cell? ⟨wi.heap.size, 1, none⟩ = some (.int .i64 sy) := by rw [hw5]; simp [go_sem]
   clear hw5
   have c0 := fun z : After w5 => After.cell v0 z
   have c1 := fun z : After w5 => After.cell v1 z
   have c2 := fun z : After w5 => After.cell (HX5.out.cell hp0) z
   have c3 := fun z : After w5 => After.cell (HX5.out.cell hp1) z
   have c4 := fun z : After w5 => After.cell (HX5.out.cell hq0) z
   have c5 := fun z : After w5 => After.cell (HX5.out.cell hq1) z
   have c6 := fun z : After w5 => After.cell (HX5.out.cell he0) z
   clear v0 v1 hs0 hs1 hp0 hp1 hq0 hq1 he0
   refine region_tail 23 (by kernel_rfl) (by kernel_rfl) ?_
   simp only [List.take_succ_cons, List.take_zero, List.drop_succ_cons, List.drop_zero]
   repeat (go_big_quiet_step ((go_at_call 58; exact after_call (sum_any (_, _) (_, _) _))))
   refine wpQuiet_nil ?_
   rintro w6 ⟨⟨_, he⟩, rfl⟩
   have HX6 := Lib.hid ((HXI.out.trans HX5.out).trans he)
   have HB6 : Hid (BlkG _ G LS) := (HBL.out.ext HX5.out).ext he
   clear c0 c1 c2 c3 c4 c5 c6 he
   obtain ⟨t0, t1, t2, t3, t4⟩ := HB6.out.at (k := k) (by rw [HLL.out]; exact hlt)
   have f0 := Blk.frozen HB6.out (k * 5); have f1 := Blk.frozen HB6.out (k * 5 + 1); have f2 := Blk.frozen HB6.out (k * 5 + 2); have f3 := Blk.frozen HB6.out (k * 5 + 3); have f4 := Blk.frozen HB6.out (k * 5 + 4)
   obtain ⟨⟨x1, y1⟩, h1⟩ : ∃ s, addS (px, py) (sx, sy) = s := ⟨_, rfl⟩
   obtain ⟨⟨x2, y2⟩, h2⟩ : ∃ s, addS (qx, qy) (sx, sy) = s := ⟨_, rfl⟩
   rw [h1, h2] at HSK ⊢
   clear h1 h2
   go_wp2_with fail
   go_roundw
   case rel =>
    refine ⟨k + 1, LS.set k ((x1, y1), (x2, y2), ew), by omega, by go_num, BlkG.set HB6.out k ((x1, y1), (x2, y2), ew), by rw [List.length_set, HLL.out], fun j hj => ?_, Ext.setCell (p := ⟨G, k * 5 + 4, none⟩) (Ext.setCell (p := ⟨G, k * 5 + 3, none⟩) (Ext.setCell (p := ⟨G, k * 5 + 2, none⟩) (Ext.setCell (p := ⟨G, k * 5 + 1, none⟩) (Ext.setCell (p := ⟨G, k * 5, none⟩) HX6.out HG3.out _) HG3.out _) HG3.out _) HG3.out _) HG3.out _⟩
    rw [gG_set (by rw [HLL.out]; exact hlt)]
    by_cases hjk : j = k
    ·subst hjk
     rw [if_pos rfl, HSK.out]
    ·rw [if_neg hjk]; exact HLS.out j (by omega)
   case measure => simp [intOf]; omega
  ·obtain rfl : N = k := by omega
   have HXW := Lib.hid (HX3.out.trans HXI.out)
   have HPW := Lib.hid (HP3.out.ext HXI.out)
   clear HXI HP3 HS3 HE3 HX3 hlt hk
   obtain ⟨wz, rfl⟩ : ∃ wz : World, wz = wi := ⟨_, rfl⟩
   go_wp2_with fail
   have HXZ : Hid (w.heap.size ≤ wz.heap.size) := HXW.out.size
   go_loopw [14, 79] (fun v i wr => ∃ k : Nat, k ≤ N ∧ i = .int .i64 k ∧ OwnS wr wz.heap.size v (ptP (verts es) (shOf es ws) (segWd es ws n) k) ∧ Ext wz wr) (fun _ i _ => N - (intOf i).toNat)
   case atStart => exact ⟨0, Nat.zero_le _, rfl, OwnS.nil _ _, Ext.refl _⟩
   case round =>
    obtain ⟨wi, rfl⟩ : ∃ wi : World, wi = wr := ⟨_, rfl⟩
    obtain ⟨k, hk, rfl, ho, hxi⟩ := hrel
    have HO := Lib.hid ho; have HXI := Lib.hid hxi
    clear ho hxi
    by_cases hlt : k < N
    rotate_left
    ·-- end begin
     obtain rfl : N = k := by omega
     have HPN := Lib.hid (HAO.out.l N (by rw [← HNE.out]; exact Nat.le_refl _))
     rw [HL.out] at HPN
     have HPA : Hid (ptsA es ws = dropP 100 (ptP (verts es) (shOf es ws) (segWd es ws n) N)) := by show _ = _; unfold ptsA; rw [HL.out, ← HNE.out]
     obtain ⟨PN, hPN⟩ : ∃ l, l = ptP (verts es) (shOf es ws) (segWd es ws n) N := ⟨_, rfl⟩
     rw [← hPN] at HPN HPA HO
     clear hPN hlt hk
     go_wp2_with fail
     go_loopw [14] (fun v wr => ∃ (f : Nat) (L : List Spot), OwnS wr wz.heap.size v L ∧ dropP 100 PN = dropP f L ∧ L.length ≤ f ∧ L.length ≤ 100 ∧ Ext wz wr) (fun v _ => match v with | .slice _ m _ => m | _ => 0)
     case atStart => exact ⟨100, PN, HO.out, rfl, by have := HPN.out; omega, by have := HPN.out; omega, HXI.out⟩
     case round =>
      obtain ⟨wa, rfl⟩ : ∃ wa : World, wa = wr := ⟨_, rfl⟩
      obtain ⟨f, L, ho, hd, hlf, hl1, hxa⟩ := hrel
      have HD := Lib.hid hd; have HXA := Lib.hid hxa
      clear hd hxa
      obtain ⟨q, hq⟩ : ∃ q, q = L.length := ⟨_, rfl⟩
      have HLQ : Hid (L.length = q) := hq.symm
      obtain ⟨VA, vc, rfl, hS, hvc, hvc'⟩ := ho.slice
      rw [← hq] at hlf hl1 hvc ho ⊢
      have HOA := Lib.hid ho; have HSL2 := Lib.hid hS
      clear hq hS
      by_cases hq2 : 2 ≤ q
      ·obtain ⟨p, hpq⟩ : ∃ p, q = p + 1 := ⟨q - 1, by omega⟩
       obtain ⟨gr, rfl, _, _, _, d0, d1, _, _, _⟩ := own_pair (t := 49) ho (k := p) (by omega)
       obtain ⟨e0, e1⟩ := HSL2.out.at1 (k := 0) (by rw [HLQ.out]; omega)
       obtain ⟨⟨lx, ly⟩, hlr⟩ : ∃ s, s = gS L p := ⟨_, rfl⟩
       obtain ⟨⟨fx, fy⟩, hfr⟩ : ∃ s, s = gS L 0 := ⟨_, rfl⟩
       rw [← hlr] at d0 d1
       rw [← hfr] at e0 e1
       have HLR := Lib.hid hlr; have HFR := Lib.hid hfr
       simp only [Nat.zero_mul, Nat.zero_add] at d0 d1 e0 e1
       have hp1 : (q : Int) - 1 = p := by omega
       have hp0 : (0 : Int) ≤ p := by omega
       have hpq2 : (p : Int) < q := by omega
       have hq2' : (2 : Int) ≤ q := by omega
       have hq0' : (0 : Int) < q := by omega
       have HPQ : Hid (q - 1 = p) := by show _ = _; omega
       have HP1 := Lib.hid hpq
       clear hlr hfr ho hpq
       by_cases he : (lx, ly) = (fx, fy)
       ·have hb : eqS lx ly fx fy = true := (eqS_iff (lx, ly) (fx, fy)).2 he
        have HCND : Hid (2 ≤ L.length ∧ gS L (L.length - 1) = gS L 0) := ⟨by rw [HLQ.out]; exact hq2, by rw [HLQ.out, HPQ.out, ← HLR.out, ← HFR.out]; exact he⟩
        clear he
        have hpc : (p : Int) ≤ vc := by have := HP1.out; omega
        have hpc' : p ≤ vc := by have := HP1.out; omega
        have z2 := fun z : After wa => After.cell d0 z
        have z3 := fun z : After wa => After.cell d1 z
        have z4 := fun z : After wa => After.cell e0 z
        have z5 := fun z : After wa => After.cell e1 z
        go_upto_region 26 with fail
        refine region_ext (by kernel_rfl) (by kernel_rfl) ?_
        repeat (first | go_big_quiet_step (fail) | (go_big_quiet_want; go_simp; go_big_quiet_on))
        refine wpQuiet_nil ?_
        rintro wd ⟨⟨_, hxd⟩, rfl⟩
        clear z2 z3 z4 z5
        go_wp2_with fail
        go_roundw
        case rel =>
         refine ⟨f - 1, L.take p, own_take (own_ext HOA.out hxd) (by have := HP1.out; rw [HLQ.out]; omega), ?_, ?_, ?_, HXA.out.trans hxd⟩
         ·rw [HD.out, dropP_step HCND.out (by rw [HLQ.out]; exact hlf), HLQ.out, HPQ.out]
         ·rw [List.length_take, HLQ.out]; have := HP1.out; omega
         ·rw [List.length_take, HLQ.out]; omega
        case measure => have := HP1.out; simp only; omega
       ·have hb : eqS lx ly fx fy = false := by rw [← Bool.not_eq_true, eqS_iff (lx, ly) (fx, fy)]; exact he
        have HCND : Hid (¬ (2 ≤ L.length ∧ gS L (L.length - 1) = gS L 0)) := fun h => he (by have h2 := h.2; rw [HLQ.out, HPQ.out, ← HLR.out, ← HFR.out] at h2; exact h2)
        clear he
        have z2 := fun z : After wa => After.cell d0 z
        have z3 := fun z : After wa => After.cell d1 z
        have z4 := fun z : After wa => After.cell e0 z
        have z5 := fun z : After wa => After.cell e1 z
        clear d0 d1 e0 e1
        go_upto_region 26 with fail
        refine region_ext (by kernel_rfl) (by kernel_rfl) ?_
        repeat (first | go_big_quiet_step (fail) | (go_big_quiet_want; go_simp; go_big_quiet_on))
        refine wpQuiet_nil ?_
        rintro wd ⟨⟨_, hxd⟩, rfl⟩
        clear z2 z3 z4 z5 hb hp1 hp0 hpq2 hq2' hq0'
        have HXD := Lib.hid (HXA.out.trans hxd)
        have HSD := Lib.hid (HSL2.out.ext hxd)
        have HOD := Lib.hid (own_ext HOA.out hxd)
        have HPD := Lib.hid (HPW.out.ext HXD.out)
        have HPT : Hid (ptsA es ws = L) := by show _ = _; rw [HPA.out, HD.out, dropP_stop HCND.out]
        clear hxd HXA HOA HSL2 hlf
        have hq1 : q ≤ 1000 := by omega
        go_wp2_with fail
        go_loopw [145] (fun i wr => ∃ k : Nat, k ≤ q ∧ i = .int .i64 k ∧ firstE (fun i => if inSB (gS L i) 1048576 = true then 0 else 3) k = 0 ∧ Ext wd wr) (fun i _ => q - (intOf i).toNat)
        case atStart => exact ⟨0, Nat.zero_le _, rfl, rfl, Ext.refl _⟩
        case round =>
         obtain ⟨we, rfl⟩ : ∃ we : World, we = wr := ⟨_, rfl⟩
         obtain ⟨k, hk, rfl, hf, hxe⟩ := hrel
         have HF := Lib.hid hf; have HXE := Lib.hid hxe
         clear hf hxe
         by_cases hkq : k < q
         ·obtain ⟨c0, c1⟩ := (HSD.out.ext HXE.out).at1 (k := k) (by rw [HLQ.out]; exact hkq)
          have HFI := Lib.hid (fun hne => firstE_at (f := fun i => if inSB (gS L i) 1048576 = true then (0 : Int) else 3) (n := q) hkq HF.out hne)
          obtain ⟨⟨rx, ry⟩, hr⟩ : ∃ s, s = gS L k := ⟨_, rfl⟩
          rw [← hr] at c0 c1
          have HR := Lib.hid hr
          simp only [Nat.zero_add] at c0 c1
          clear hr
          go_wp2_with fail
          refine (withinS_any (rx, ry) 1048576 _ (by omega) (by omega)).mono ?_
          rintro e w7 ⟨rfl, he7⟩
          have HX7 : Hid (Ext we w7) := ((Ext.refl _).alloc _).trans he7
          clear he7 c0 c1
          cases hin : inSB (rx, ry) 1048576
          ·have HAL : Hid (alE es ws = 3) := by
            show _ = _
            have e : rngE L = 3 := by
             unfold rngE
             rw [HLQ.out, HFI.out (by rw [← HR.out, hin]; simp), ← HR.out, hin]
             rfl
            unfold alE
            rw [HPT.out, e, if_pos (by omega)]
           clear hin
           go_wp2_with fail
           go_ret2
           refine ⟨.slice none 0 0, by rw [HAL.out]; rfl, fun h => (by rw [HAL.out] at h; cases h), fun _ => rfl, (HXW.out.trans (HXD.out.trans (HXE.out.trans HX7.out)))⟩
          ·have HIN := Lib.hid hin
           clear hin
           go_wp2_with fail
           go_roundw
           case rel =>
            refine ⟨k + 1, by omega, by go_num, (firstE_zero _ _).2 fun i hi => ?_, HXE.out.trans HX7.out⟩
            rcases Nat.lt_succ_iff_lt_or_eq.1 hi with h | h
            ·exact (firstE_zero _ _).1 HF.out i h
            ·subst h; rw [← HR.out, HIN.out]; rfl
           case measure => simp [intOf]; omega
         ·obtain rfl : q = k := by omega
          have HRG : Hid (rngE (ptsA es ws) = 0) := by show _ = _; rw [HPT.out]; unfold rngE; rw [HLQ.out]; exact HF.out
          go_wp2_with fail
          refine (pcheck_any (some ⟨gr, 0, none⟩) q vc L we (HSD.out.ext HXE.out) HLQ.out hvc).mono ?_
          rintro e w7 ⟨rfl, he7⟩
          have HX7 := Lib.hid (HXE.out.trans he7)
          clear he7
          by_cases hz : pcheck L = 0
          rotate_left
          ·have hzb : (pcheck L != 0) = true := by simp [hz]
           have HAL : Hid (alE es ws = pcheck L) := by show _ = _; unfold alE; rw [HRG.out, if_neg (by omega), HPT.out, if_pos hz]
           have HZ := Lib.hid hz
           clear hz
           go_wp2_with fail
           go_ret2
           exact ⟨.slice none 0 0, by rw [HAL.out]; rfl, fun h => absurd (HAL.out.symm.trans h) HZ.out, fun _ => rfl, (HXW.out.trans (HXD.out.trans HX7.out))⟩
          have HZ := Lib.hid hz
          rw [hz]
          clear hz
          go_wp2_with fail
          refine (orient_any (some ⟨gr, 0, none⟩) q vc L w7 (HSD.out.ext HX7.out) HLQ.out hvc).mono ?_
          rintro e w8 ⟨rfl, he8⟩
          have HX8 := Lib.hid (HX7.out.trans he8)
          clear he8
          go_wp2_with fail
          refine (orient_any A2 N cap2 (verts es) w8 (HPD.out.ext HX8.out) HNE.out.symm hcap2).mono ?_
          rintro e w9 ⟨rfl, he9⟩
          have HX9 := Lib.hid (HX8.out.trans he9)
          have HSG1 : Hid (sgOf L = cmpI (area2 L) 0) := rfl
          have HSG2 : Hid (sgOf (verts es) = cmpI (area2 (verts es)) 0) := rfl
          obtain ⟨sa, hsa⟩ : ∃ s, s = cmpI (area2 L) 0 := ⟨_, rfl⟩
          obtain ⟨sb, hsb⟩ : ∃ s, s = cmpI (area2 (verts es)) 0 := ⟨_, rfl⟩
          rw [← hsa] at HSG1 ⊢
          rw [← hsb] at HSG2 ⊢
          clear hsa hsb he9
          by_cases hsg : sa = sb
          ·have hsgb : (sa != sb) = false := by simp [hsg]
           have HAL : Hid (alE es ws = 0) := by show _ = _; unfold alE; rw [HRG.out, if_neg (by omega), HPT.out, HZ.out, if_neg (by omega), HSG1.out, HSG2.out, if_neg (fun h => h hsg)]
           have HOF := Lib.hid (own_ext HOD.out HX9.out)
           clear hsg
           go_wp2_with fail
           go_ret2
           refine ⟨.slice (some ⟨gr, 0, none⟩) q vc, by rw [HAL.out]; rfl, fun _ => ?_, fun h => absurd HAL.out h, (HXW.out.trans (HXD.out.trans HX9.out))⟩
           rw [HPT.out]
           exact own_base_le HOF.out HXZ.out
          ·have hsgb : (sa != sb) = true := by simp [hsg]
           have HAL : Hid (alE es ws = 11) := by show _ = _; unfold alE; rw [HRG.out, if_neg (by omega), HPT.out, HZ.out, if_neg (by omega), HSG1.out, HSG2.out, if_pos hsg]
           clear hsg
           go_wp2_with fail
           go_ret2
           exact ⟨.slice none 0 0, by rw [HAL.out]; rfl, fun h => (by rw [HAL.out] at h; cases h), fun _ => rfl, (HXW.out.trans (HXD.out.trans HX9.out))⟩
      ·have hq2' : ¬ (2 : Int) ≤ q := by omega
       have HCND : Hid (¬ (2 ≤ L.length ∧ gS L (L.length - 1) = gS L 0)) := fun h => hq2 (by have := h.1; rw [HLQ.out] at this; exact this)
       go_upto_region 26 with fail
       refine region_ext (by kernel_rfl) (by kernel_rfl) ?_
       repeat (first | go_big_quiet_step (fail) | (go_big_quiet_want; go_simp; go_big_quiet_on))
       refine wpQuiet_nil ?_
       rintro wd ⟨⟨_, hxd⟩, rfl⟩
       clear hq2'
       have HXD := Lib.hid (HXA.out.trans hxd)
       have HSD := Lib.hid (HSL2.out.ext hxd)
       have HOD := Lib.hid (own_ext HOA.out hxd)
       have HPD := Lib.hid (HPW.out.ext HXD.out)
       have HPT : Hid (ptsA es ws = L) := by show _ = _; rw [HPA.out, HD.out, dropP_stop HCND.out]
       clear hxd HXA HOA HSL2 hlf
       have hq1 : q ≤ 1000 := by omega
       go_wp2_with fail
       go_loopw [145] (fun i wr => ∃ k : Nat, k ≤ q ∧ i = .int .i64 k ∧ firstE (fun i => if inSB (gS L i) 1048576 = true then 0 else 3) k = 0 ∧ Ext wd wr) (fun i _ => q - (intOf i).toNat)
       case atStart => exact ⟨0, Nat.zero_le _, rfl, rfl, Ext.refl _⟩
       case round =>
        obtain ⟨we, rfl⟩ : ∃ we : World, we = wr := ⟨_, rfl⟩
        obtain ⟨k, hk, rfl, hf, hxe⟩ := hrel
        have HF := Lib.hid hf; have HXE := Lib.hid hxe
        clear hf hxe
        by_cases hkq : k < q
        ·obtain ⟨bq, oq, rfl, c0, c1⟩ := (HSD.out.ext HXE.out).g (k := k) (by rw [HLQ.out]; exact hkq)
         have HFI := Lib.hid (fun hne => firstE_at (f := fun i => if inSB (gS L i) 1048576 = true then (0 : Int) else 3) (n := q) hkq HF.out hne)
         obtain ⟨⟨rx, ry⟩, hr⟩ : ∃ s, s = gS L k := ⟨_, rfl⟩
         rw [← hr] at c0 c1
         have HR := Lib.hid hr
         simp only at c0 c1
         clear hr
         go_wp2_with fail
         refine (withinS_any (rx, ry) 1048576 _ (by omega) (by omega)).mono ?_
         rintro e w7 ⟨rfl, he7⟩
         have HX7 : Hid (Ext we w7) := ((Ext.refl _).alloc _).trans he7
         clear he7 c0 c1
         cases hin : inSB (rx, ry) 1048576
         ·have HAL : Hid (alE es ws = 3) := by
           show _ = _
           have e : rngE L = 3 := by
            unfold rngE
            rw [HLQ.out, HFI.out (by rw [← HR.out, hin]; simp), ← HR.out, hin]
            rfl
           unfold alE
           rw [HPT.out, e, if_pos (by omega)]
          clear hin
          go_wp2_with fail
          go_ret2
          refine ⟨.slice none 0 0, by rw [HAL.out]; rfl, fun h => (by rw [HAL.out] at h; cases h), fun _ => rfl, (HXW.out.trans (HXD.out.trans (HXE.out.trans HX7.out)))⟩
         ·have HIN := Lib.hid hin
          clear hin
          go_wp2_with fail
          go_roundw
          case rel =>
           refine ⟨k + 1, by omega, by go_num, (firstE_zero _ _).2 fun i hi => ?_, HXE.out.trans HX7.out⟩
           rcases Nat.lt_succ_iff_lt_or_eq.1 hi with h | h
           ·exact (firstE_zero _ _).1 HF.out i h
           ·subst h; rw [← HR.out, HIN.out]; rfl
          case measure => simp [intOf]; omega
        ·obtain rfl : q = k := by omega
         have HRG : Hid (rngE (ptsA es ws) = 0) := by show _ = _; rw [HPT.out]; unfold rngE; rw [HLQ.out]; exact HF.out
         go_wp2_with fail
         refine (pcheck_any VA q vc L we (HSD.out.ext HXE.out) HLQ.out hvc).mono ?_
         rintro e w7 ⟨rfl, he7⟩
         have HX7 := Lib.hid (HXE.out.trans he7)
         clear he7
         by_cases hz : pcheck L = 0
         rotate_left
         ·have hzb : (pcheck L != 0) = true := by simp [hz]
          have HAL : Hid (alE es ws = pcheck L) := by show _ = _; unfold alE; rw [HRG.out, if_neg (by omega), HPT.out, if_pos hz]
          have HZ := Lib.hid hz
          clear hz
          go_wp2_with fail
          go_ret2
          exact ⟨.slice none 0 0, by rw [HAL.out]; rfl, fun h => absurd (HAL.out.symm.trans h) HZ.out, fun _ => rfl, (HXW.out.trans (HXD.out.trans HX7.out))⟩
         have HZ := Lib.hid hz
         rw [hz]
         clear hz
         go_wp2_with fail
         refine (orient_any VA q vc L w7 (HSD.out.ext HX7.out) HLQ.out hvc).mono ?_
         rintro e w8 ⟨rfl, he8⟩
         have HX8 := Lib.hid (HX7.out.trans he8)
         clear he8
         go_wp2_with fail
         refine (orient_any A2 N cap2 (verts es) w8 (HPD.out.ext HX8.out) HNE.out.symm hcap2).mono ?_
         rintro e w9 ⟨rfl, he9⟩
         have HX9 := Lib.hid (HX8.out.trans he9)
         have HSG1 : Hid (sgOf L = cmpI (area2 L) 0) := rfl
         have HSG2 : Hid (sgOf (verts es) = cmpI (area2 (verts es)) 0) := rfl
         obtain ⟨sa, hsa⟩ : ∃ s, s = cmpI (area2 L) 0 := ⟨_, rfl⟩
         obtain ⟨sb, hsb⟩ : ∃ s, s = cmpI (area2 (verts es)) 0 := ⟨_, rfl⟩
         rw [← hsa] at HSG1 ⊢
         rw [← hsb] at HSG2 ⊢
         clear hsa hsb he9
         by_cases hsg : sa = sb
         ·have hsgb : (sa != sb) = false := by simp [hsg]
          have HAL : Hid (alE es ws = 0) := by show _ = _; unfold alE; rw [HRG.out, if_neg (by omega), HPT.out, HZ.out, if_neg (by omega), HSG1.out, HSG2.out, if_neg (fun h => h hsg)]
          have HOF := Lib.hid (own_ext HOD.out HX9.out)
          clear hsg
          go_wp2_with fail
          go_ret2
          refine ⟨.slice VA q vc, by rw [HAL.out]; rfl, fun _ => ?_, fun h => absurd HAL.out h, (HXW.out.trans (HXD.out.trans HX9.out))⟩
          rw [HPT.out]
          exact own_base_le HOF.out HXZ.out
         ·have hsgb : (sa != sb) = true := by simp [hsg]
          have HAL : Hid (alE es ws = 11) := by show _ = _; unfold alE; rw [HRG.out, if_neg (by omega), HPT.out, HZ.out, if_neg (by omega), HSG1.out, HSG2.out, if_pos hsg]
          clear hsg
          go_wp2_with fail
          go_ret2
          exact ⟨.slice none 0 0, by rw [HAL.out]; rfl, fun h => (by rw [HAL.out] at h; cases h), fun _ => rfl, (HXW.out.trans (HXD.out.trans HX9.out))⟩
    obtain ⟨ix, hix⟩ : ∃ ix, ix = (k + N - 1) % N := ⟨_, rfl⟩
    have hm1 : ix < N := by rw [hix]; exact Nat.mod_lt _ (by omega)
    obtain ⟨bp, op, rfl, hp0, hp1⟩ := (HPW.out.ext HXI.out).g (k := k) (by rw [← HNE.out]; exact hlt)
    have HCV0 := Lib.hid (HAO.out.v k (by rw [← HNE.out]; exact hlt))
    have HPK : Hid (ptP (verts es) (shOf es ws) (segWd es ws n) (k + 1) = (cornC (gS (verts es) k) (sgP (verts es) (shOf es ws) (segWd es ws n) ix) (sgP (verts es) (shOf es ws) (segWd es ws n) k)).foldl addP (ptP (verts es) (shOf es ws) (segWd es ws n) k)) := by
     show (cornC (gS (verts es) k) (sgP (verts es) (shOf es ws) (segWd es ws n) ((k + (verts es).length - 1) % (verts es).length)) (sgP (verts es) (shOf es ws) (segWd es ws n) k)).foldl addP (ptP (verts es) (shOf es ws) (segWd es ws n) k) = _
     rw [← HNE.out, ← hix]
    have HPL := Lib.hid (HAO.out.l (k + 1) (by rw [← HNE.out]; omega)); have HPL0 := Lib.hid (HAO.out.l k (by rw [← HNE.out]; omega))
    have HCA0 := Lib.hid (HAO.out.s ix (by rw [← HNE.out]; exact hm1)); have HCB0 := Lib.hid (HAO.out.s k (by rw [← HNE.out]; exact hlt))
    rw [HL.out] at HPL HPL0 HCA0 HCB0
    have HGA := Lib.hid (HLS.out ix hm1); have HGB := Lib.hid (HLS.out k hlt)
    obtain ⟨⟨px, py⟩, hp⟩ : ∃ p, p = gS (verts es) k := ⟨_, rfl⟩
    obtain ⟨⟨⟨ax, ay⟩, ⟨ax', ay'⟩, aw⟩, hsa⟩ : ∃ s, s = sgP (verts es) (shOf es ws) (segWd es ws n) ix := ⟨_, rfl⟩
    obtain ⟨⟨⟨bx, b_y⟩, ⟨bx', b_y'⟩, bw⟩, hsb⟩ : ∃ s, s = sgP (verts es) (shOf es ws) (segWd es ws n) k := ⟨_, rfl⟩
    rw [← hp] at hp0 hp1 HPK
    rw [← hp] at HCV0
    rw [← hsa] at HPK HCA0 HGA
    rw [← hsb] at HPK HCB0 HGB
    simp only at hp0 hp1
    have HCV : Hid (inC (px, py)) := HCV0.out
    have HCA : Hid (SgOk ((ax, ay), (ax', ay'), aw)) := HCA0.out
    have HCB : Hid (SgOk ((bx, b_y), (bx', b_y'), bw)) := HCB0.out
    clear hp hsa hsb HCV0 HCA0 HCB0
    go_wp2_with fail
    refine wp_at fun W5 hW5 => ?_
    have hx5 : Ext wi W5 := by rw [hW5]; exact (Ext.refl _).alloc _
    have HBV0 : Blk 49 W5 wi.heap.size [.int .i64 px, .int .i64 py] := by rw [hW5]; exact Blk.new' rfl
    have HX5 := Lib.hid (HXI.out.trans hx5)
    have HO5 := Lib.hid (own_ext HO.out hx5)
    obtain ⟨gv, hgv⟩ : ∃ g, g = wi.heap.size := ⟨_, rfl⟩
    rw [← hgv] at HBV0 ⊢
    have HBV := Lib.hid HBV0
    have HSA : Hid (∀ W, Ext W5 W → W.cell? ⟨G, ix * 5, none⟩ = some (.int .i64 ax) ∧ W.cell? ⟨G, ix * 5 + 1, none⟩ = some (.int .i64 ay) ∧ W.cell? ⟨G, ix * 5 + 2, none⟩ = some (.int .i64 ax') ∧ W.cell? ⟨G, ix * 5 + 3, none⟩ = some (.int .i64 ay') ∧ W.cell? ⟨G, ix * 5 + 4, none⟩ = some (.int .i64 aw)) := fun W he => by
     have h := BlkG.at ((HBL.out.ext HX5.out).ext he) (k := ix) (by rw [HLL.out]; exact hm1)
     rw [HGA.out] at h; exact h
    have HSB : Hid (∀ W, Ext W5 W → W.cell? ⟨G, k * 5, none⟩ = some (.int .i64 bx) ∧ W.cell? ⟨G, k * 5 + 1, none⟩ = some (.int .i64 b_y) ∧ W.cell? ⟨G, k * 5 + 2, none⟩ = some (.int .i64 bx') ∧ W.cell? ⟨G, k * 5 + 3, none⟩ = some (.int .i64 b_y') ∧ W.cell? ⟨G, k * 5 + 4, none⟩ = some (.int .i64 bw)) := fun W he => by
     have h := BlkG.at ((HBL.out.ext HX5.out).ext he) (k := k) (by rw [HLL.out]; exact hlt)
     rw [HGB.out] at h; exact h
    clear hW5 HBV0 hx5 hgv hp0 hp1
    have hw1 : IntKind.i64.wrap ((k : Int) + N) = (k : Int) + N := (IntWalk.i64_left _).trans (IntWalk.wrap64_in _ ⟨by omega, by omega⟩)
    have hw2 : IntKind.i64.wrap ((k : Int) + N - 1) = (k : Int) + N - 1 := (IntWalk.i64_left _).trans (IntWalk.wrap64_in _ ⟨by omega, by omega⟩)
    have hw3 : ¬ N = 0 := by omega
    have hw4 : ((k : Int) + N - 1).tmod N = (ix : Int) := by
     rw [hix, show (k : Int) + N - 1 = ((k + N - 1 : Nat) : Int) by omega]; rfl
    have hw5 : IntKind.i64.wrap (ix : Int) = (ix : Int) := (IntWalk.i64_left _).trans (IntWalk.wrap64_in _ ⟨by omega, by omega⟩)
    clear hix
    refine region_slots0 (l := 17) (N := 164) (W0 := W5) [84, 85, 86, 87, 88, 89, 90, 91, 92, 93, 94, 95, 96, 97, 98, 99, 100] [Fx (.agg #[.int .i64 px, .int .i64 py]), Fx (.slice (some ⟨G, 0, none⟩) N N), Fx (.int .i64 (k : Int)), Fx (.int .i64 (N : Int)), Fx (.int .i64 ((k : Int) + N)), Fx (.int .i64 ((k : Int) + N - 1)), Fx (.int .i64 (N : Int)), Fx (.int .i64 (ix : Int)), Fx (.pointer (some ⟨G, ix * 5, none⟩)), Fx (.agg #[.int .i64 ax, .int .i64 ay, .int .i64 ax', .int .i64 ay', .int .i64 aw]), Fx (.slice (some ⟨G, 0, none⟩) N N), Fx (.int .i64 (k : Int)), Fx (.pointer (some ⟨G, k * 5, none⟩)), Fx (.agg #[.int .i64 bx, .int .i64 b_y, .int .i64 bx', .int .i64 b_y', .int .i64 bw]), IsS W5.heap.size (cornC (px, py) ((ax, ay), (ax', ay'), aw) ((bx, b_y), (bx', b_y'), bw)), Fx (.int .i64 ((cornC (px, py) ((ax, ay), (ax', ay'), aw) ((bx, b_y), (bx', b_y'), bw)).length : Int)), Fx (.int .i64 0)] (by kernel_rfl) (by kernel_rfl) (by kernel_rfl) (by kernel_rfl) (Ext.refl _) ?kp (fun i hi => ?_) (fun xs w1 hx hT => ?_)
    case kp => exact ⟨Fx.kp _, Fx.kp _, Fx.kp _, Fx.kp _, Fx.kp _, Fx.kp _, Fx.kp _, Fx.kp _, Fx.kp _, Fx.kp _, Fx.kp _, Fx.kp _, Fx.kp _, Fx.kp _, IsS.kp _ _, Fx.kp _, Fx.kp _, trivial⟩
    ·match i, hi with
     |0, _ =>
      refine so rfl ?_
      intro fb wi hx hb hd K hK
      have x16 : fb.eval (.tmp 16) = .pointer (some ⟨gv, 0, none⟩) := hb 16 rfl
      have cf0 := (HBV.out.ext hx).cell 0
      have cf1 := (HBV.out.ext hx).cell 1
      simp only [List.getElem?_cons_zero, List.getElem?_cons_succ] at cf0 cf1
      refine sv rfl (v := .agg #[.int .i64 px, .int .i64 py]) (w' := wi) (fun ρ hρ hc => ?_) (hK _ _ (Ext.refl _) (rfl))
      have r16 := (hρ (.tmp 16)).trans x16
      simp [execOp, go_sem, r16, cf0, cf1]
     |1, _ =>
      refine so rfl ?_
      intro fb wi hx hb hd K hK
      have x11 : fb.eval (.tmp 11) = .slice (some ⟨G, 0, none⟩) N N := hb 11 rfl
      refine sv rfl (v := .slice (some ⟨G, 0, none⟩) N N) (w' := wi) (fun ρ hρ hc => ?_) (hK _ _ (Ext.refl _) (rfl))
      have r11 := (hρ (.tmp 11)).trans x11
      simp [execOp, go_sem, r11]
     |2, _ =>
      refine so rfl ?_
      intro fb wi hx hb hd K hK
      have x15 : fb.eval (.tmp 15) = .int .i64 (k : Int) := hb 15 rfl
      refine sv rfl (v := .int .i64 (k : Int)) (w' := wi) (fun ρ hρ hc => ?_) (hK _ _ (Ext.refl _) (rfl))
      have r15 := (hρ (.tmp 15)).trans x15
      simp [execOp, go_sem, r15]
     |3, _ =>
      refine so rfl ?_
      intro fb wi hx hb hd K hK
      have x10 : fb.eval (.tmp 10) = .int .i64 (N : Int) := hb 10 rfl
      refine sv rfl (v := .int .i64 (N : Int)) (w' := wi) (fun ρ hρ hc => ?_) (hK _ _ (Ext.refl _) (rfl))
      have r10 := (hρ (.tmp 10)).trans x10
      simp [execOp, go_sem, r10]
     |4, _ =>
      refine so rfl ?_
      intro fb wi hx hb hd K hK
      have x86 : fb.eval (.tmp 86) = .int .i64 (k : Int) := hd 2 86 rfl (by kernel_rfl)
      have x87 : fb.eval (.tmp 87) = .int .i64 (N : Int) := hd 3 87 rfl (by kernel_rfl)
      refine sv rfl (v := .int .i64 ((k : Int) + N)) (w' := wi) (fun ρ hρ hc => ?_) (hK _ _ (Ext.refl _) (rfl))
      have r86 := (hρ (.tmp 86)).trans x86
      have r87 := (hρ (.tmp 87)).trans x87
      simp [execOp, go_sem, r86, r87, hw1]
     |5, _ =>
      refine so rfl ?_
      intro fb wi hx hb hd K hK
      have x88 : fb.eval (.tmp 88) = .int .i64 ((k : Int) + N) := hd 4 88 rfl (by kernel_rfl)
      refine sv rfl (v := .int .i64 ((k : Int) + N - 1)) (w' := wi) (fun ρ hρ hc => ?_) (hK _ _ (Ext.refl _) (rfl))
      have r88 := (hρ (.tmp 88)).trans x88
      simp [execOp, go_sem, hc, r88, hw2]
     |6, _ =>
      refine so rfl ?_
      intro fb wi hx hb hd K hK
      have x10 : fb.eval (.tmp 10) = .int .i64 (N : Int) := hb 10 rfl
      refine sv rfl (v := .int .i64 (N : Int)) (w' := wi) (fun ρ hρ hc => ?_) (hK _ _ (Ext.refl _) (rfl))
      have r10 := (hρ (.tmp 10)).trans x10
      simp [execOp, go_sem, r10]
     |7, _ =>
      refine so rfl ?_
      intro fb wi hx hb hd K hK
      have x89 : fb.eval (.tmp 89) = .int .i64 ((k : Int) + N - 1) := hd 5 89 rfl (by kernel_rfl)
      have x90 : fb.eval (.tmp 90) = .int .i64 (N : Int) := hd 6 90 rfl (by kernel_rfl)
      refine sv rfl (v := .int .i64 (ix : Int)) (w' := wi) (fun ρ hρ hc => ?_) (hK _ _ (Ext.refl _) (rfl))
      have r89 := (hρ (.tmp 89)).trans x89
      have r90 := (hρ (.tmp 90)).trans x90
      simp [execOp, go_sem, r89, r90, hw3, hw4, hw5]
     |8, _ =>
      refine so rfl ?_
      intro fb wi hx hb hd K hK
      have x85 : fb.eval (.tmp 85) = .slice (some ⟨G, 0, none⟩) N N := hd 1 85 rfl (by kernel_rfl)
      have x91 : fb.eval (.tmp 91) = .int .i64 (ix : Int) := hd 7 91 rfl (by kernel_rfl)
      refine sv rfl (v := .pointer (some ⟨G, ix * 5, none⟩)) (w' := wi) (fun ρ hρ hc => ?_) (hK _ _ (Ext.refl _) (rfl))
      have r85 := (hρ (.tmp 85)).trans x85
      have r91 := (hρ (.tmp 91)).trans x91
      simp [execOp, go_sem, r85, r91, hm1]
     |9, _ =>
      refine so rfl ?_
      intro fb wi hx hb hd K hK
      have x92 : fb.eval (.tmp 92) = .pointer (some ⟨G, ix * 5, none⟩) := hd 8 92 rfl (by kernel_rfl)
      obtain ⟨ca0, ca1, ca2, ca3, ca4⟩ := HSA.out wi hx
      refine sv rfl (v := .agg #[.int .i64 ax, .int .i64 ay, .int .i64 ax', .int .i64 ay', .int .i64 aw]) (w' := wi) (fun ρ hρ hc => ?_) (hK _ _ (Ext.refl _) (rfl))
      have r92 := (hρ (.tmp 92)).trans x92
      simp [execOp, go_sem, r92, ca0, ca1, ca2, ca3, ca4]
     |10, _ =>
      refine so rfl ?_
      intro fb wi hx hb hd K hK
      have x11 : fb.eval (.tmp 11) = .slice (some ⟨G, 0, none⟩) N N := hb 11 rfl
      refine sv rfl (v := .slice (some ⟨G, 0, none⟩) N N) (w' := wi) (fun ρ hρ hc => ?_) (hK _ _ (Ext.refl _) (rfl))
      have r11 := (hρ (.tmp 11)).trans x11
      simp [execOp, go_sem, r11]
     |11, _ =>
      refine so rfl ?_
      intro fb wi hx hb hd K hK
      have x15 : fb.eval (.tmp 15) = .int .i64 (k : Int) := hb 15 rfl
      refine sv rfl (v := .int .i64 (k : Int)) (w' := wi) (fun ρ hρ hc => ?_) (hK _ _ (Ext.refl _) (rfl))
      have r15 := (hρ (.tmp 15)).trans x15
      simp [execOp, go_sem, r15]
     |12, _ =>
      refine so rfl ?_
      intro fb wi hx hb hd K hK
      have x94 : fb.eval (.tmp 94) = .slice (some ⟨G, 0, none⟩) N N := hd 10 94 rfl (by kernel_rfl)
      have x95 : fb.eval (.tmp 95) = .int .i64 (k : Int) := hd 11 95 rfl (by kernel_rfl)
      refine sv rfl (v := .pointer (some ⟨G, k * 5, none⟩)) (w' := wi) (fun ρ hρ hc => ?_) (hK _ _ (Ext.refl _) (rfl))
      have r94 := (hρ (.tmp 94)).trans x94
      have r95 := (hρ (.tmp 95)).trans x95
      simp [execOp, go_sem, r94, r95, hlt]
     |13, _ =>
      refine so rfl ?_
      intro fb wi hx hb hd K hK
      have x96 : fb.eval (.tmp 96) = .pointer (some ⟨G, k * 5, none⟩) := hd 12 96 rfl (by kernel_rfl)
      obtain ⟨ca0, ca1, ca2, ca3, ca4⟩ := HSB.out wi hx
      refine sv rfl (v := .agg #[.int .i64 bx, .int .i64 b_y, .int .i64 bx', .int .i64 b_y', .int .i64 bw]) (w' := wi) (fun ρ hρ hc => ?_) (hK _ _ (Ext.refl _) (rfl))
      have r96 := (hρ (.tmp 96)).trans x96
      simp [execOp, go_sem, r96, ca0, ca1, ca2, ca3, ca4]
     |14, _ =>
      refine so rfl ?_
      intro fb wi hx hb hd K hK
      have x84 : fb.eval (.tmp 84) = .agg #[.int .i64 px, .int .i64 py] := hd 0 84 rfl (by kernel_rfl)
      have x93 : fb.eval (.tmp 93) = .agg #[.int .i64 ax, .int .i64 ay, .int .i64 ax', .int .i64 ay', .int .i64 aw] := hd 9 93 rfl (by kernel_rfl)
      have x97 : fb.eval (.tmp 97) = .agg #[.int .i64 bx, .int .i64 b_y, .int .i64 bx', .int .i64 b_y', .int .i64 bw] := hd 13 97 rfl (by kernel_rfl)
      refine sc rfl 59 [.tmp 84, .tmp 93, .tmp 97] #[49, 120, 120] rfl _ Tryz.func59 rfl (by decide +kernel) [.agg #[.int .i64 px, .int .i64 py], .agg #[.int .i64 ax, .int .i64 ay, .int .i64 ax', .int .i64 ay', .int .i64 aw], .agg #[.int .i64 bx, .int .i64 b_y, .int .i64 bx', .int .i64 b_y', .int .i64 bw]] (by simp only [List.map_cons, List.map_nil, x84, x93, x97]) (retS_is (acorner_any (px, py) ((ax, ay), (ax', ay'), aw) ((bx, b_y), (bx', b_y'), bw) wi HCV.out HCA.out HCB.out) hx.size) (fun e w' h => rk hK h)
     |15, _ =>
      refine so rfl ?_
      intro fb wi hx hb hd K hK
      have y98 : IsS W5.heap.size (cornC (px, py) ((ax, ay), (ax', ay'), aw) ((bx, b_y), (bx', b_y'), bw)) (fb.eval (.tmp 98)) wi := hd 14 98 rfl (by kernel_rfl)
      obtain ⟨Aq, cq, x98, _, _, _⟩ := OwnS.slice y98
      refine sv rfl (v := .int .i64 ((cornC (px, py) ((ax, ay), (ax', ay'), aw) ((bx, b_y), (bx', b_y'), bw)).length : Int)) (w' := wi) (fun ρ hρ hc => ?_) (hK _ _ (Ext.refl _) (rfl))
      have r98 := (hρ (.tmp 98)).trans x98
      simp [execOp, go_sem, r98]
     |16, _ =>
      refine so rfl ?_
      intro fb wi hx hb hd K hK
      refine sv rfl (v := .int .i64 0) (w' := wi) (fun ρ hρ hc => ?_) (hK _ _ (Ext.refl _) (rfl))
      simp [execOp, go_sem, hc]
     |n + 17, hn => exact absurd hn (by omega)
    ·skip
     simp only [frOf, putAll, List.drop_succ_cons, List.drop_zero, List.setIfInBounds_toArray, List.set_cons_succ, List.set_cons_zero, Nat.zero_add, Nat.reduceAdd]
     have t98 : IsS W5.heap.size (cornC (px, py) ((ax, ay), (ax', ay'), aw) ((bx, b_y), (bx', b_y'), bw)) (xs 14) w1 := hT 14 (by decide)
     have q99 : xs 15 = .int .i64 ((cornC (px, py) ((ax, ay), (ax', ay'), aw) ((bx, b_y), (bx', b_y'), bw)).length : Int) := hT 15 (by decide)
     have q100 : xs 16 = .int .i64 0 := hT 16 (by decide)
     have HC1 := Lib.hid (cornC_len (px, py) ((ax, ay), (ax', ay'), aw) ((bx, b_y), (bx', b_y'), bw))
     obtain ⟨CL, hCL⟩ : ∃ l, l = cornC (px, py) ((ax, ay), (ax', ay'), aw) ((bx, b_y), (bx', b_y'), bw) := ⟨_, rfl⟩
     rw [← hCL] at t98 q99 HPK HC1
     clear hCL
     obtain ⟨hcl1, hcl2⟩ := HC1.out
     obtain ⟨Aq, cq, q98, _, _, _⟩ := OwnS.slice t98
     rw [q98] at t98
     obtain ⟨qb, Rq, rfl, _, hqb, hBq, _, _, _⟩ := own_blk t98 (by omega)
     rw [q98, q99, q100]
     obtain ⟨P0, hP0⟩ : ∃ l, l = ptP (verts es) (shOf es ws) (segWd es ws n) k := ⟨_, rfl⟩
     rw [← hP0] at HPK HO5 HPL0
     have HP0 := Lib.hid hP0
     clear hP0
     have hnq : ∀ v, OwnS W5 wz.heap.size v P0 → v.ownBlock ≠ some qb := fun v h e => by have := (World.ownsRow.lt h qb e).2; omega
     have HNQ := Lib.hid (hnq _ HO5.out)
     have HO6 := Lib.hid (own_ext HO5.out hx)
     have HX6 := Lib.hid (HX5.out.trans hx)
     have HBQ := Lib.hid hBq
     clear hnq hBq t98 q98 q99 q100 hT hx hqb HBV HSA HSB HO5 HX5 HO HXI hw1 hw2 hw3 hw4 hw5
     obtain ⟨m, hm⟩ : ∃ m, m = CL.length := ⟨_, rfl⟩
     rw [← hm] at hcl1 hcl2 ⊢
     have HM := Lib.hid hm
     clear hm
     go_wp2_with fail
     go_loopw [14, 100] (fun v i wr => ∃ j : Nat, j ≤ m ∧ i = .int .i64 j ∧ OwnS wr wz.heap.size v ((CL.take j).foldl addP P0) ∧ Ext wz wr ∧ v.ownBlock ≠ some qb ∧ Blk 49 wr qb (scells CL ++ Rq)) (fun _ i _ => m - (intOf i).toNat)
     case atStart => exact ⟨0, Nat.zero_le _, rfl, HO6.out, HX6.out, HNQ.out, HBQ.out⟩
     case round =>
      obtain ⟨wa, rfl⟩ : ∃ wa : World, wa = wr := ⟨_, rfl⟩
      obtain ⟨j, hj, rfl, ho, hxa, hna, hba⟩ := hrel
      have HXA0 := Lib.hid hxa
      by_cases hjm : j < m
      rotate_left
      ·obtain rfl : m = j := by omega
       have HOA := Lib.hid ho
       rw [List.take_of_length_le (by rw [← HM.out]; exact Nat.le_refl _), ← HPK.out] at HOA
       clear ho hxa hna hba
       go_wp2_with fail
       go_roundw
       case rel => exact ⟨k + 1, by omega, by go_num, HOA.out, HXA0.out⟩
       case measure => simp [intOf]; omega
      have HTK : Hid ((CL.take (j + 1)).foldl addP P0 = addP ((CL.take j).foldl addP P0) (gS CL j)) := by
       show _ = _
       rw [take_succ CL j (by rw [← HM.out]; exact hjm), List.foldl_append, gS_eq (by rw [← HM.out]; exact hjm)]
       rfl
      have HLB : Hid (((CL.take j).foldl addP P0).length ≤ 1000) := by
       have h1 := addP_fold_len (CL.take j) P0
       have h2 := HPL0.out
       rw [List.length_take] at h1
       show _ ≤ _
       omega
      obtain ⟨LP, hLP⟩ : ∃ l, l = (CL.take j).foldl addP P0 := ⟨_, rfl⟩
      rw [← hLP] at ho HTK HLB
      clear hLP
      obtain ⟨q, hq⟩ : ∃ q, q = LP.length := ⟨_, rfl⟩
      have HLPL : Hid (LP.length = q) := hq.symm
      obtain ⟨VA, vc, rfl, _, _, _⟩ := ho.slice
      rw [← hq] at ho hna HLB ⊢
      have HQL := HLB
      obtain ⟨c0, c1, _, _⟩ := pair_cells hba (k := j) (by rw [← HM.out]; exact hjm)
      obtain ⟨⟨rx, ry⟩, hr⟩ : ∃ s, s = gS CL j := ⟨_, rfl⟩
      rw [← hr] at c0 c1 HTK
      simp only at c0 c1
      have HADD : Hid ((CL.take (j + 1)).foldl addP P0 = if ¬ (LP ≠ [] ∧ gS LP (q - 1) = (rx, ry)) then LP ++ [(rx, ry)] else LP) := by
       show _ = _
       rw [HTK.out]
       unfold addP
       rw [HLPL.out]
       by_cases h : LP ≠ [] ∧ gS LP (q - 1) = (rx, ry)
       ·rw [if_pos h, if_neg (fun hn => hn h)]
       ·rw [if_neg h, if_pos h]
      have hqlb : qb < wa.heap.size := hba.lt
      have HOA0 := Lib.hid ho; have HNE0 := Lib.hid hna; have HBA0 := Lib.hid hba
      clear hr hq hxa hna hba
      by_cases hq0 : q = 0
      ·subst hq0
       have HCND : Hid (¬ (LP ≠ [] ∧ gS LP (0 - 1) = (rx, ry))) := fun h => h.1 (List.eq_nil_of_length_eq_zero HLPL.out)
       go_wp2_with fail
       refine wp_at fun wb hwb => ?_
       have hxb : Ext wa wb := by rw [hwb]; exact (Ext.refl _).alloc _
       have hvb : Blk 49 wb wa.heap.size [.int .i64 rx, .int .i64 ry] := by rw [hwb]; exact Blk.new' rfl
       have v0 := hvb.cell 0; have v1 := hvb.cell 1
       simp only [List.getElem?_cons_zero, List.getElem?_cons_succ] at v0 v1
       have HXB := Lib.hid hxb; have HVB := Lib.hid hvb
       clear hwb hvb c0 c1 hqlb
       go_quiet (fail)
       go_upto_region 23 with fail
       refine wp_at fun wd hwd => ?_
       have hxd : Ext wb wd := by rw [hwd]; exact (Ext.refl _).drewN _
       have HXA := Lib.hid ((HXA0.out.trans HXB.out).trans hxd)
       have HOA : Hid (wd.ownsRow wz.heap.size 49 2 (.slice VA 0 vc) 0 (scells LP)) := by
        have h := own_ext HOA0.out (HXB.out.trans hxd)
        rw [HLPL.out] at h
        exact h
       have HBA := Lib.hid (HBA0.out.ext (HXB.out.trans hxd))
       have HNE2 := HNE0
       have v0' := hxd.cell v0; have v1' := hxd.cell v1
       clear hwd hxb v0 v1
       go_wp2_with (at_builtin; refine wpList_append_lies _ rfl (.tmp 117) (.tmp 119) 38 rfl wz.heap.size 49 i0 (.agg #[.int .i64 0, .int .i64 0]) 2 16 Tryz.underlying38 hi0 hz0 hz1 hz2 rfl (by decide) _ 0 (scells LP) rfl (World.ownsRow.alloc HOA.out _) ⟨wd.heap.size, 0, none⟩ 1 1 [.int .i64 rx, .int .i64 ry] rfl ?c1 ?c2 ?c3 ?c3' ?c4 ?c5 ?c6 (wd.heap.size + 1) ?c7 ?_)
       case c1 => rfl
       case c2 => exact World.news_of_block (cs := #[.int .i64 rx, .int .i64 ry]) (t := 49) (fr := (0, 0)) (heap_alloc_new wd _)
       case c3 => simp [Value.oneCell']
       case c3' => omega
       case c4 => have := HQL.out; unfold maxLen; omega
       case c5 => have := HQL.out; omega
       case c6 => have := HXA.out.size; simp; omega
       case c7 => simp
       intro gn cn w9 hown' hgrow hgn hgl
       have hO' : OwnS w9 wz.heap.size (.slice (some ⟨gn, 0, none⟩) (0 + 1) cn) (LP ++ [(rx, ry)]) := by
        unfold OwnS
        rw [scells_append, List.length_append, HLPL.out]
        exact hown'
       have hB9 : Blk 49 w9 qb (scells CL ++ Rq) := (hgrow.block qb (by have := HBA.out.lt; simp; omega) (Ne.symm HNE2.out)).trans (HBA.out.ext ((Ext.refl _).alloc _))
       have hx9 : Ext wz w9 := (HXA.out.alloc _).grown hgrow (fun g hg => (World.ownsRow.lt HOA.out g hg).1)
       have hne9 : (Value.slice (some ⟨gn, 0, none⟩) (0 + 1) cn).ownBlock ≠ some qb := by
        intro e
        have e1 : gn = qb := by simpa [Value.ownBlock] using e
        rcases hgn with h | h
        ·exact HNE2.out (h.trans (by rw [e1]))
        ·have := HBA.out.lt; omega
       have HO9 := Lib.hid hO'; have HB9 := Lib.hid hB9; have HX9 := Lib.hid hx9; have HN9 := Lib.hid hne9
       clear hO' hB9 hx9 hne9 hown' hgrow hgn
       go_wp2_with fail
       go_roundw
       case rel =>
        refine ⟨j + 1, by omega, by go_num, ?_, HX9.out, HN9.out, HB9.out⟩
        rw [HADD.out, if_pos HCND.out]
        exact HO9.out
       case measure => simp [intOf]; omega
      ·obtain ⟨p, hpq⟩ : ∃ p, q = p + 1 := ⟨q - 1, by omega⟩
       obtain ⟨gr, rfl, _, _, _, d0, d1, _, _, _⟩ := own_pair (t := 49) ho (k := p) (by omega)
       obtain ⟨⟨lx, ly⟩, hlr⟩ : ∃ s, s = gS LP p := ⟨_, rfl⟩
       rw [← hlr] at d0 d1
       have HLR := Lib.hid hlr
       simp only at d0 d1
       clear hlr ho
       have hp1 : (q : Int) - 1 = p := by omega
       have hpn : ((q : Int) == 0) = false := by simp; omega
       have hp0 : (0 : Int) ≤ p := by omega
       have hpq2 : (p : Int) < q := by omega
       have HPQ : Hid (q - 1 = p) := by show _ = _; omega
       clear hpq
       by_cases he : (lx, ly) = (rx, ry)
       ·have hb : eqS lx ly rx ry = true := (eqS_iff (lx, ly) (rx, ry)).2 he
        have HCND : Hid (LP ≠ [] ∧ gS LP (q - 1) = (rx, ry)) := ⟨fun h => by have := HLPL.out; rw [h] at this; exact hq0 this.symm, by rw [HPQ.out, ← HLR.out]; exact he⟩
        clear he
        go_wp2_with fail
        refine wp_at fun wb hwb => ?_
        have hxb : Ext wa wb := by rw [hwb]; exact (Ext.refl _).alloc _
        have hvb : Blk 49 wb wa.heap.size [.int .i64 rx, .int .i64 ry] := by rw [hwb]; exact Blk.new' rfl
        have v0 := hvb.cell 0; have v1 := hvb.cell 1
        simp only [List.getElem?_cons_zero, List.getElem?_cons_succ] at v0 v1
        have HXB := Lib.hid hxb; have HVB := Lib.hid hvb
        clear hwb hvb c0 c1 hqlb
        have d0' := HXB.out.cell d0; have d1' := HXB.out.cell d1
        clear d0 d1
        have z0 := fun z : After wb => After.cell v0 z
        have z1 := fun z : After wb => After.cell v1 z
        have z2 := fun z : After wb => After.cell d0' z
        have z3 := fun z : After wb => After.cell d1' z
        refine region_ext (by kernel_rfl) (by kernel_rfl) ?_
        repeat (first | go_big_quiet_step (fail) | (go_big_quiet_want; go_simp; go_big_quiet_on))
        refine wpQuiet_nil ?_
        rintro wd0 ⟨⟨_, hxd0⟩, rfl⟩
        clear z0 z1 z2 z3
        go_upto_region 24 with fail
        refine wp_at fun wd hwd => ?_
        have hxd : Ext wb wd := by rw [hwd]; exact hxd0
        have HXA := Lib.hid ((HXA0.out.trans HXB.out).trans hxd)
        have HOA : Hid (wd.ownsRow wz.heap.size 49 2 (.slice (some ⟨gr, 0, none⟩) q vc) q (scells LP)) := by
         have h := own_ext HOA0.out (HXB.out.trans hxd)
         rw [HLPL.out] at h
         exact h
        have HBA := Lib.hid (HBA0.out.ext (HXB.out.trans hxd))
        have HNE2 := HNE0
        have v0' := hxd.cell v0; have v1' := hxd.cell v1
        clear hwd hxd0 hxb v0 v1
        have HOD : Hid (OwnS wd wz.heap.size (.slice (some ⟨gr, 0, none⟩) q vc) LP) := own_ext HOA0.out (HXB.out.trans hxd)
        go_wp2_with fail
        go_roundw
        case rel =>
         refine ⟨j + 1, by omega, by go_num, ?_, HXA.out, HNE2.out, HBA.out⟩
         rw [HADD.out, if_neg (fun h => h HCND.out)]
         exact HOD.out
        case measure => simp [intOf]; omega
       ·have hb : eqS lx ly rx ry = false := by rw [← Bool.not_eq_true, eqS_iff (lx, ly) (rx, ry)]; exact he
        have HCND : Hid (¬ (LP ≠ [] ∧ gS LP (q - 1) = (rx, ry))) := fun h => he (by rw [HLR.out, ← h.2, HPQ.out])
        clear he
        go_wp2_with fail
        refine wp_at fun wb hwb => ?_
        have hxb : Ext wa wb := by rw [hwb]; exact (Ext.refl _).alloc _
        have hvb : Blk 49 wb wa.heap.size [.int .i64 rx, .int .i64 ry] := by rw [hwb]; exact Blk.new' rfl
        have v0 := hvb.cell 0; have v1 := hvb.cell 1
        simp only [List.getElem?_cons_zero, List.getElem?_cons_succ] at v0 v1
        have HXB := Lib.hid hxb; have HVB := Lib.hid hvb
        clear hwb hvb c0 c1 hqlb
        have d0' := HXB.out.cell d0; have d1' := HXB.out.cell d1
        clear d0 d1
        have z0 := fun z : After wb => After.cell v0 z
        have z1 := fun z : After wb => After.cell v1 z
        have z2 := fun z : After wb => After.cell d0' z
        have z3 := fun z : After wb => After.cell d1' z
        refine region_ext (by kernel_rfl) (by kernel_rfl) ?_
        repeat (first | go_big_quiet_step (fail) | (go_big_quiet_want; go_simp; go_big_quiet_on))
        refine wpQuiet_nil ?_
        rintro wd0 ⟨⟨_, hxd0⟩, rfl⟩
        clear z0 z1 z2 z3
        go_upto_region 23 with fail
        refine wp_at fun wd hwd => ?_
        have hxd : Ext wb wd := by rw [hwd]; exact hxd0
        have HXA := Lib.hid ((HXA0.out.trans HXB.out).trans hxd)
        have HOA : Hid (wd.ownsRow wz.heap.size 49 2 (.slice (some ⟨gr, 0, none⟩) q vc) q (scells LP)) := by
         have h := own_ext HOA0.out (HXB.out.trans hxd)
         rw [HLPL.out] at h
         exact h
        have HBA := Lib.hid (HBA0.out.ext (HXB.out.trans hxd))
        have HNE2 := HNE0
        have v0' := hxd.cell v0; have v1' := hxd.cell v1
        clear hwd hxd0 hxb v0 v1
        go_wp2_with (at_builtin; refine wpList_append_lies _ rfl (.tmp 117) (.tmp 119) 38 rfl wz.heap.size 49 i0 (.agg #[.int .i64 0, .int .i64 0]) 2 16 Tryz.underlying38 hi0 hz0 hz1 hz2 rfl (by decide) _ q (scells LP) rfl (World.ownsRow.alloc HOA.out _) ⟨wd.heap.size, 0, none⟩ 1 1 [.int .i64 rx, .int .i64 ry] rfl ?c1 ?c2 ?c3 ?c3' ?c4 ?c5 ?c6 (wd.heap.size + 1) ?c7 ?_)
        case c1 => rfl
        case c2 => exact World.news_of_block (cs := #[.int .i64 rx, .int .i64 ry]) (t := 49) (fr := (0, 0)) (heap_alloc_new wd _)
        case c3 => simp [Value.oneCell']
        case c3' => omega
        case c4 => have := HQL.out; unfold maxLen; omega
        case c5 => have := HQL.out; omega
        case c6 => have := HXA.out.size; simp; omega
        case c7 => simp
        intro gn cn w9 hown' hgrow hgn hgl
        have hO' : OwnS w9 wz.heap.size (.slice (some ⟨gn, 0, none⟩) (q + 1) cn) (LP ++ [(rx, ry)]) := by
         unfold OwnS
         rw [scells_append, List.length_append, HLPL.out]
         exact hown'
        have hB9 : Blk 49 w9 qb (scells CL ++ Rq) := (hgrow.block qb (by have := HBA.out.lt; simp; omega) (Ne.symm HNE2.out)).trans (HBA.out.ext ((Ext.refl _).alloc _))
        have hx9 : Ext wz w9 := (HXA.out.alloc _).grown hgrow (fun g hg => (World.ownsRow.lt HOA.out g hg).1)
        have hne9 : (Value.slice (some ⟨gn, 0, none⟩) (q + 1) cn).ownBlock ≠ some qb := by
         intro e
         have e1 : gn = qb := by simpa [Value.ownBlock] using e
         rcases hgn with h | h
         ·exact HNE2.out (h.trans (by rw [e1]))
         ·have := HBA.out.lt; omega
        have HO9 := Lib.hid hO'; have HB9 := Lib.hid hB9; have HX9 := Lib.hid hx9; have HN9 := Lib.hid hne9
        clear hO' hB9 hx9 hne9 hown' hgrow hgn
        go_wp2_with fail
        go_roundw
        case rel =>
         refine ⟨j + 1, by omega, by go_num, ?_, HX9.out, HN9.out, HB9.out⟩
         rw [HADD.out, if_pos HCND.out]
         exact HO9.out
        case measure => simp [intOf]; omega
end Go.Proofs.YtfegbaokcbjllaaGreat
