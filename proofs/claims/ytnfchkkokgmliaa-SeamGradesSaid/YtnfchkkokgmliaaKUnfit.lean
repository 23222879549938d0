/- seam.Unfit -/
import Derived.Test.YtnfchkkokgmliaaKLens2
/- plain: bounds of lengths; the gap of two lengths -/
namespace Go.Proofs.Ytnfchkkokgmliaa
open Go.RowKit
theorem lengthN_bd (l : List Spot) : lengthN l ≤ 1000000000000 := by
  unfold lengthN
  split
  · omega
  · rename_i h
    obtain ⟨h2, h40, hin⟩ := lcheck_zero (l := l) (by omega)
    have := lenTo_le hin (l.length - 1) (by omega)
    have : (l.length - 1) * 4294967296 ≤ 39 * 4294967296 := Nat.mul_le_mul (by omega) (by omega)
    omega
theorem lnN_bd (p : Pc) (m : Int) (e : Nat) : lnN p m e ≤ 1000000000000 := by
  unfold lnN
  split
  · omega
  · exact lengthN_bd _
theorem lensV_bd (s : Sty) (z k : Int) : 0 ≤ (lensV s z k).1 ∧ (lensV s z k).1 ≤ 1000000000000 ∧ 0 ≤ (lensV s z k).2.1 ∧ (lensV s z k).2.1 ≤ 1000000000000 := by
  unfold lensV
  split
  · simp only; omega
  · have := lnN_bd (gPc s.ps (gSm s.ss k.toNat).pa.toNat) (gI s.ms z.toNat) (gSm s.ss k.toNat).ea.toNat
    have := lnN_bd (gPc s.ps (gSm s.ss k.toNat).pb.toNat) (gI s.ms z.toNat) (gSm s.ss k.toNat).eb.toNat
    unfold lensA lensB
    simp only; omega
def gapN (a b : Int) : Int := if a - b < b - a then b - a else a - b
end Go.Proofs.Ytnfchkkokgmliaa
namespace Go.Proofs.Ytnfchkkokgmliaa
open Go.RowKit
def unfF (s : Sty) (z : Int) (k : Nat) : Bool := decide ((gSm s.ss k).ease < gapN (lensV s z k).1 (lensV s z k).2.1)
def unfTo (s : Sty) (z : Int) (k : Nat) : List Int := ((List.range k).filter (unfF s z)).map fun (i : Nat) => (i : Int)
def unfL (s : Sty) (z : Int) : List Int := unfTo s z s.ss.length
def unfE (s : Sty) (z : Int) : Int := if sizeB s z = false then 3 else firstE (fun k => (lensV s z (k : Int)).2.2) s.ss.length
def RetUn (w : World) (s : Sty) (z : Int) (e : Ending) (w' : World) : Prop :=
  ∃ v, e = .returned (.tuple #[v, .int .i64 (unfE s z)]) ∧ (unfE s z = 0 → OwnI w' w.heap.size v (unfL s z)) ∧ (unfE s z ≠ 0 → v = .slice none 0 0) ∧ Ext w w'
theorem retUn_bad {w w' : World} {s : Sty} {z x : Int} (h : unfE s z = x) (hx : x ≠ 0) (he : Ext w w') : RetUn w s z (.returned (.tuple #[.slice none 0 0, .int .i64 x])) w' :=
  ⟨_, by rw [h], fun h0 => absurd (h.symm.trans h0) hx, fun _ => rfl, he⟩
theorem unfTo_len (s : Sty) (z : Int) (k : Nat) : (unfTo s z k).length ≤ k := by
  unfold unfTo
  rw [List.length_map]
  exact Nat.le_trans (List.length_filter_le _ _) (by simp)
theorem unfTo_yes {s : Sty} {z : Int} {k : Nat} (h : unfF s z k = true) : unfTo s z (k + 1) = unfTo s z k ++ [(k : Int)] := by
  unfold unfTo; rw [List.range_succ, List.filter_append, List.map_append]; simp [h]
theorem unfTo_no {s : Sty} {z : Int} {k : Nat} (h : unfF s z k = false) : unfTo s z (k + 1) = unfTo s z k := by
  unfold unfTo; rw [List.range_succ, List.filter_append, List.map_append]; simp [h]
set_option maxRecDepth 100000 in
set_option maxHeartbeats 3200000 in
theorem unfit_any (a : StyA) (s : Sty) (z : Int) (w : World) (hs : StyAt w a s) (hn : a.nK ≤ 1000) :
    Calls Try.prog 12 #[a.val, .int .i64 z] w (RetUn w s z) := by
  have HS := Lib.hid hs; clear hs
  have HC := Lib.hid (fun W (h : Ext w W) => isSize_any a s z W (HS.out.ext h))
  have HD := Lib.hid (fun k W (h : Ext w W) => lengths_any a s z k W (HS.out.ext h))
  obtain ⟨nm, AS, nS, cS, AM, nM, cM, AP, nP, cP, AU, nU, cU, AK, nK, cK, AO, nO, cO⟩ := a
  have HLK : Hid (s.ss.length = nK) := HS.out.lK
  simp only at hn
  simp only [StyA.val] at HC HD ⊢
  obtain ⟨i0, hi0, hz0, hz1, hz2⟩ := info_parts int_info
  go_enter Try.func12, Try.ntmps12
  go_wp2_with fail
  refine (HC.out _ ((Ext.refl _).alloc _)).mono ?_
  rintro e w1 ⟨rfl, he1⟩
  have HB1 : Hid (Blk 55 w1 w.heap.size [.string nm, .slice AS nS cS, .slice AM nM cM, .slice AP nP cP, .slice AU nU cU, .slice AK nK cK, .slice AO nO cO]) := (Blk.new' rfl).ext he1
  have HX1 := Lib.hid (((Ext.refl w).alloc _).trans he1)
  clear he1
  cases hsz : sizeB s z
  · have HR : Hid (unfE s z = 3) := by show _ = _; unfold unfE; rw [if_pos hsz]
    clear hsz
    go_wp2_with fail
    go_ret2
    exact retUn_bad HR.out (by decide) HX1.out
  have HUE : Hid (unfE s z = firstE (fun k => (lensV s z (k : Int)).2.2) nK) := by show _ = _; unfold unfE; rw [if_neg (by rw [hsz]; decide), HLK.out]
  clear hsz
  obtain ⟨c0, c1, c2, c3, c4, c5, c6⟩ := blk7 HB1.out
  go_wp2_with fail
  clear c0 c1 c2 c3 c4 c5 c6
  go_loopw [6, 19] (fun v i wr => ∃ k : Nat, k ≤ nK ∧ i = .int .i64 k ∧ firstE (fun k => (lensV s z (k : Int)).2.2) k = 0 ∧ OwnI wr w1.heap.size v (unfTo s z k) ∧ Ext w1 wr) (fun _ i _ => nK - (intOf i).toNat)
  case atStart => exact ⟨0, Nat.zero_le _, rfl, rfl, OwnI.nil _ _, Ext.refl _⟩
  case round =>
    obtain ⟨k, hk, rfl, ht, ho, hx⟩ := hrel
    have HT := Lib.hid ht; clear ht
    have hlk := unfTo_len s z k
    obtain ⟨LK, hLK⟩ : ∃ LK, LK = unfTo s z k := ⟨_, rfl⟩
    rw [← hLK] at ho hlk
    have HLKE := Lib.hid hLK; have HO := Lib.hid ho; have HX := Lib.hid hx; clear hLK ho hx
    have HXw := Lib.hid (HX1.out.trans HX.out)
    by_cases hlt : k < nK
    · obtain ⟨bk, ok, hAK, hsm⟩ := (HS.out.K.ext HXw.out) k (by rw [HLK.out]; exact hlt)
      simp only at hAK
      subst hAK
      obtain ⟨sm, hsmd⟩ : ∃ sm, sm = gSm s.ss k := ⟨_, rfl⟩
      rw [← hsmd] at hsm
      obtain ⟨pa, ea, pb, eb, rv, es⟩ := sm
      have HES : Hid ((gSm s.ss k).ease = es) := by show _ = _; rw [← hsmd]
      clear hsmd
      obtain ⟨k0, k1, k2, k3, k4, k5⟩ := hsm
      simp only at k0 k1 k2 k3 k4 k5
      obtain ⟨c0, c1, c2, c3, c4, c5, c6⟩ := blk7 (HB1.out.ext HX.out)
      have hpl : w.heap.size < wr.heap.size := (HB1.out.ext HX.out).lt
      have HXL : Hid (Ext wr (wr.alloc (.cells #[.int .i64 pa, .int .i64 ea, .int .i64 pb, .int .i64 eb, .bool rv, .int .i64 es] 73))) := (Ext.refl _).alloc _
      go_wp2_with fail
      refine (HD.out (k : Int) _ (HXw.out.trans HXL.out)).mono ?_
      rintro e w2 ⟨rfl, he2⟩
      have HSB : Hid (Blk 73 w2 wr.heap.size [.int .i64 pa, .int .i64 ea, .int .i64 pb, .int .i64 eb, .bool rv, .int .i64 es]) := (Blk.new' rfl).ext he2
      have HX2 := Lib.hid ((HX.out.trans HXL.out).trans he2)
      have HXr2 := Lib.hid (HXL.out.trans he2)
      clear he2 HXL c0 c1 c2 c3 c4 c5 c6 k0 k1 k2 k3 k4 k5 hpl
      obtain ⟨bd1, bd2, bd3, bd4⟩ := lensV_bd s z k
      obtain ⟨V, hV⟩ : ∃ V, V = lensV s z k := ⟨_, rfl⟩
      have HV := Lib.hid hV
      rw [← hV] at bd1 bd2 bd3 bd4 ⊢
      clear hV
      obtain ⟨LA, LB, E⟩ := V
      simp only at bd1 bd2 bd3 bd4
      simp only [LenV]
      by_cases hz : E = 0
      rotate_left
      · have HR : Hid (unfE s z = E) := by show _ = _; rw [HUE.out]; rw [firstE_at hlt HT.out (by rw [← HV.out]; exact hz), ← HV.out]
        have hzb : (E != 0) = true := by simp [hz]
        have HZ := Lib.hid hz; clear hz
        go_wp2_with fail
        go_ret2
        exact retUn_bad HR.out HZ.out (HX1.out.trans HX2.out)
      subst hz
      have HT' := Lib.hid (firstE_succ (f := fun k => (lensV s z (k : Int)).2.2) HT.out (by rw [← HV.out]))
      have HUF : Hid (unfF s z k = decide (es < gapN LA LB)) := by show _ = _; unfold unfF; rw [HES.out, ← HV.out]
      obtain ⟨k0, k1, k2, k3, k4, k5⟩ := blk6 HSB.out
      have hbb : w1.heap.size ≤ w2.heap.size := HX2.out.size
      obtain ⟨G, hG⟩ : ∃ G, G = gapN LA LB := ⟨_, rfl⟩
      rw [← hG] at HUF
      have wA : IntKind.i64.wrap (LA - LB) = LA - LB := IntWalk.i64_in _ (by omega)
      have wB : IntKind.i64.wrap (LB - LA) = LB - LA := IntWalk.i64_in _ (by omega)
      have H63 : Hid (LK.length + 1 ≤ maxLen) := by show _ ≤ _; unfold maxLen; omega
      have H64 : Hid ((LK.length + 1) * 8 ≤ 140737488355328) := by show _ ≤ _; omega
      have HC6 : Hid (w1.heap.size ≤ (w2.alloc (.cells #[.int .i64 (k : Int)] 3)).heap.size) := by show _ ≤ _; simp; omega
      by_cases hun : es < G
      · have HU : Hid (unfF s z k = true) := by show _ = _; rw [HUF.out]; exact decide_eq_true hun
        by_cases hm : LA - LB < LB - LA
        · have hG' : G = LB - LA := by rw [hG]; unfold gapN; rw [if_pos hm]
          have hun' : es < LB - LA := by omega
          clear hG hG' hun
          go_wp2_with (at_builtin; refine wpList_append_own _ rfl (.tmp 45) (.tmp 47) 25 rfl w1.heap.size 3 i0 (.int .i64 0) 1 8 Try.underlying25 hi0 hz0 hz1 hz2 rfl (by decide) _ _ _ rfl (World.ownsRow.alloc (own_ext HO.out HXr2.out) _) ⟨w2.heap.size, 0, none⟩ 1 1 [.int .i64 (k : Int)] rfl rfl (World.news_of_block (cs := #[.int .i64 (k : Int)]) (t := 3) (fr := (0, 0)) (heap_alloc_new w2 _)) (by simp [Value.oneCell']) H63.out H64.out HC6.out ?_)
          intro v' w4 hown' hgrow _
          have hO' : OwnI w4 w1.heap.size v' (unfTo s z (k + 1)) := by
            rw [unfTo_yes HU.out, ← HLKE.out]
            unfold OwnI icells
            rw [List.length_append, List.map_append]
            exact hown'
          have hx' : Ext w1 w4 := (HX2.out.alloc _).grown hgrow (fun g hg => (World.ownsRow.lt HO.out g hg).1)
          have HO' := Lib.hid hO'; clear hO' hown' hgrow
          go_wp2_with fail
          go_roundw
          case rel => exact ⟨k + 1, by omega, by go_num, HT'.out, HO'.out, hx'⟩
          case measure => simp [intOf]; omega
        · have hG' : G = LA - LB := by rw [hG]; unfold gapN; rw [if_neg hm]
          have hun' : es < LA - LB := by omega
          clear hG hG' hun
          go_wp2_with (at_builtin; refine wpList_append_own _ rfl (.tmp 45) (.tmp 47) 25 rfl w1.heap.size 3 i0 (.int .i64 0) 1 8 Try.underlying25 hi0 hz0 hz1 hz2 rfl (by decide) _ _ _ rfl (World.ownsRow.alloc (own_ext HO.out HXr2.out) _) ⟨w2.heap.size, 0, none⟩ 1 1 [.int .i64 (k : Int)] rfl rfl (World.news_of_block (cs := #[.int .i64 (k : Int)]) (t := 3) (fr := (0, 0)) (heap_alloc_new w2 _)) (by simp [Value.oneCell']) H63.out H64.out HC6.out ?_)
          intro v' w4 hown' hgrow _
          have hO' : OwnI w4 w1.heap.size v' (unfTo s z (k + 1)) := by
            rw [unfTo_yes HU.out, ← HLKE.out]
            unfold OwnI icells
            rw [List.length_append, List.map_append]
            exact hown'
          have hx' : Ext w1 w4 := (HX2.out.alloc _).grown hgrow (fun g hg => (World.ownsRow.lt HO.out g hg).1)
          have HO' := Lib.hid hO'; clear hO' hown' hgrow
          go_wp2_with fail
          go_roundw
          case rel => exact ⟨k + 1, by omega, by go_num, HT'.out, HO'.out, hx'⟩
          case measure => simp [intOf]; omega
      · have HU : Hid (unfF s z k = false) := by show _ = _; rw [HUF.out]; exact decide_eq_false hun
        have HO2 := Lib.hid (own_ext HO.out HXr2.out)
        by_cases hm : LA - LB < LB - LA
        · have hG' : G = LB - LA := by rw [hG]; unfold gapN; rw [if_pos hm]
          have hun' : ¬ es < LB - LA := by omega
          clear hG hG' hun
          go_wp2_with fail
          go_roundw
          case rel => exact ⟨k + 1, by omega, by go_num, HT'.out, by rw [unfTo_no HU.out, ← HLKE.out]; exact HO2.out, HX2.out⟩
          case measure => simp [intOf]; omega
        · have hG' : G = LA - LB := by rw [hG]; unfold gapN; rw [if_neg hm]
          have hun' : ¬ es < LA - LB := by omega
          clear hG hG' hun
          go_wp2_with fail
          go_roundw
          case rel => exact ⟨k + 1, by omega, by go_num, HT'.out, by rw [unfTo_no HU.out, ← HLKE.out]; exact HO2.out, HX2.out⟩
          case measure => simp [intOf]; omega
    · obtain rfl : k = nK := by omega
      go_wp2_with fail
      go_ret2
      have hE0 : unfE s z = 0 := by rw [HUE.out]; exact HT.out
      refine ⟨_, by rw [hE0]; rfl, fun _ => ?_, fun h => absurd hE0 h, HXw.out⟩
      have h := HO.out
      unfold unfL
      rw [HLK.out, ← HLKE.out]
      exact own_base_le h HX1.out.size
end Go.Proofs.Ytnfchkkokgmliaa
