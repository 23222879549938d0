/- garmentref23.SameIssues; issues in a row -/
import Derived.Deep.AppendLies
import Derived.Test.YtliijigdbpmpaaaKLoc
import Derived.Test.YtliijigdbpmpaaaKUpto
import Derived.Test.YtliijigdbpmpaaaKUnm
import Derived.Test.YtliijigdbpmpaaaKSameI
/- notch.Spots -/
namespace Go.Proofs.Ytliijigdbpmpaaa
open Go.RowKit
def RetSp (w : World) (p : Pc) (m : Int) (e : Ending) (w' : World) : Prop :=
  ∃ v, e = .returned (.tuple #[v, .int .i64 (plE p m)]) ∧ (plE p m = 0 → OwnT 43 w' w.heap.size v (spL p m)) ∧ (plE p m ≠ 0 → v = .slice none 0 0) ∧ Ext w w'
set_option maxRecDepth 100000 in
set_option maxHeartbeats 3200000 in
theorem spots_any (a : PcA) (p : Pc) (m : Int) (w : World) (hp : PcAt w a p) :
    Calls Try.prog 15 #[a.val, .int .i64 m] w (RetSp w p m) := by
  have HC := Lib.hid (fun W (h : Ext w W) => placed_any a p m W (hp.ext h))
  have HP := Lib.hid hp; clear hp
  obtain ⟨nm, AE, nE, cE, gr, AN, nN, cN, AC, nC, cC, AW, nW, cW, mt⟩ := a
  have HLN : Hid (p.ns.length = nN) := HP.out.ln
  have HLE : Hid (p.es.length = nE) := HP.out.le
  have HN : Hid (SpotsAt w AN p.ns) := HP.out.n
  simp only [PcA.val] at HC ⊢
  obtain ⟨i0, hi0, hz0, hz1, hz2⟩ := info_parts spot_info
  go_enter Try.func15, Try.ntmps15
  go_wp2_with fail
  refine (HC.out _ ((Ext.refl _).alloc _)).mono ?_
  rintro e w1 ⟨v, u, rfl, h1, h2, he1⟩
  have HB1 : Hid (Blk 27 w1 w.heap.size [.string nm, .slice AE nE cE, .int .i64 gr, .slice AN nN cN, .slice AC nC cC, .slice AW nW cW, .bool mt]) := (Blk.new' rfl).ext he1
  have HX1 := Lib.hid (((Ext.refl w).alloc _).trans he1)
  by_cases hz : plE p m = 0
  rotate_left
  · obtain ⟨hv, hu⟩ := h2 hz
    subst hv; subst hu
    have hzb : (plE p m != 0) = true := by simp [hz]
    obtain ⟨E, hE⟩ : ∃ E, E = plE p m := ⟨_, rfl⟩
    rw [← hE] at hzb hz ⊢
    have HE := Lib.hid hE; have HZ := Lib.hid hz; clear hE h1 h2 hz he1
    go_wp2_with fail
    go_ret2
    exact ⟨_, by rw [← HE.out]; rfl, fun h => absurd (HE.out.trans h) HZ.out, fun _ => rfl, HX1.out⟩
  obtain ⟨hOI, hOE⟩ := h1 hz
  have HOK := Lib.hid (plE_zero.1 hz)
  obtain ⟨A1, c1', hvf, hI1, _⟩ := OwnI.slice' (n := nN) hOI (by rw [plL_len]; exact HLN.out)
  subst hvf
  obtain ⟨A2, c2', hvf, hE2, _, _⟩ := OwnE.slice' (n := nE) hOE (by rw [gradedE_len]; exact HLE.out)
  subst hvf
  have HI1 := Lib.hid hI1; have HE2 := Lib.hid hE2; have HPZ := Lib.hid hz
  rw [hz]
  clear h1 h2 hz hOI hOE hI1 hE2 he1
  have h16 : nN ≤ 16 := by rw [← HLN.out]; exact HOK.out.n
  obtain ⟨c0, c1, c2, c3, c4, c5, c6⟩ := blk7 HB1.out
  go_wp2_with fail
  clear c0 c1 c2 c3 c4 c5 c6
  go_loopw [9, 27] (fun v i wr => ∃ k : Nat, k ≤ nN ∧ i = .int .i64 k ∧ OwnT 43 wr w1.heap.size v (spTo p m k) ∧ Ext w1 wr) (fun _ i _ => nN - (intOf i).toNat)
  case atStart => exact ⟨0, Nat.zero_le _, rfl, World.ownsRow_nil _ _ _ _, Ext.refl _⟩
  case round =>
    obtain ⟨k, hk, rfl, ho, hx⟩ := hrel
    have hlk := spTo_len p m k
    obtain ⟨LK, hLK⟩ : ∃ LK, LK = spTo p m k := ⟨_, rfl⟩
    rw [← hLK] at ho hlk
    have HLKL := Lib.hid hlk
    have HLKE := Lib.hid hLK; have HO := Lib.hid ho; have HX := Lib.hid hx; clear hLK ho hx hlk
    obtain ⟨wr0, rfl⟩ : ∃ wr0 : World, wr0 = wr := ⟨_, rfl⟩
    have HXw := Lib.hid (HX1.out.trans HX.out)
    by_cases hlt : k < nN
    · have hkl : k < p.ns.length := by rw [HLN.out]; exact hlt
      have HNK := Lib.hid (HOK.out.i k hkl)
      have HSPK := Lib.hid (sp_ok HOK.out hkl)
      have HPB := Lib.hid (plV_bd HNK.out)
      obtain ⟨bn, on, hAN, n0, n1⟩ := (HN.out.ext HXw.out).g (k := k) hkl
      subst hAN
      obtain ⟨D, hD⟩ := Int.eq_ofNat_of_zero_le HNK.out.e0
      have hDl : D < p.es.length := by have := HNK.out.e1; omega
      have hDn : D < nE := by rw [← HLE.out]; exact hDl
      obtain ⟨at', hat⟩ : ∃ x, x = (gS p.ns k).2 := ⟨_, rfl⟩
      rw [hD] at n0
      rw [← hat] at n1
      have HDT : Hid ((gS p.ns k).1.toNat = D) := by show _ = _; rw [hD]; simp
      clear hat
      have hpl := cell_lt n0
      go_upto_region 8 with fail
      refine wp_at fun wq hWq => ?_
      have hNb : Blk 36 wq wr0.heap.size [.int .i64 (D : Int), .int .i64 at'] := by rw [hWq]; exact Blk.new' rfl
      have hxq : Ext wr0 wq := by rw [hWq]; exact (Ext.refl _).alloc _
      have HXq := Lib.hid (HX.out.trans hxq)
      have HXrq := Lib.hid hxq
      obtain ⟨m0, m1⟩ := blk2 hNb
      clear hWq hNb hxq n0 n1 hpl
      obtain ⟨nb, hnb⟩ : ∃ nb, nb = wr0.heap.size := ⟨_, rfl⟩
      rw [← hnb] at m0 m1 ⊢
      clear hnb
      obtain ⟨bg, og, LG, cG, hAG, g0, g1, hSG, _, _⟩ := (HE2.out.ext HXq.out).g (k := D) (by rw [gradedE_len]; exact hDl)
      subst hAG
      obtain ⟨bp, op, hAP, p0⟩ := (HI1.out.ext HXq.out).g (k := k) (by rw [plL_len]; exact hkl)
      subst hAP
      rw [plL_get hkl] at p0
      have HSPe : Hid (spS p m k = alongS (gE (gradedE p.es p.cs m) D).2 (plV p m k)) := by show _ = _; unfold spS; rw [HDT.out]
      have hAE0 := HSPK.out.1
      have hPB2 := HPB.out.2
      rw [HDT.out] at hAE0 hPB2
      have hPVle : plV p m k ≤ 4000000000000000 := by
        have := lengthN_bd (gE (gradedE p.es p.cs m) D).2
        unfold grdN at hPB2
        omega
      obtain ⟨lg, hlg⟩ : ∃ lg, lg = (gE (gradedE p.es p.cs m) D).2 := ⟨_, rfl⟩
      rw [← hlg] at g1 hSG HSPe hAE0
      clear hlg g0 hPB2
      obtain ⟨ng, hng⟩ : ∃ ng, ng = lg.length := ⟨_, rfl⟩
      rw [← hng] at g1
      obtain ⟨PV, hPV⟩ : ∃ PV, PV = plV p m k := ⟨_, rfl⟩
      rw [← hPV] at p0 HSPe hAE0 hPVle
      clear hPV
      obtain ⟨SP, hSP⟩ : ∃ SP, SP = spS p m k := ⟨_, rfl⟩
      rw [← hSP] at HSPe
      have HSPd := Lib.hid hSP; clear hSP
      have HAP : Hid (∀ W : World, Ext wq W → Calls Try.prog 36 #[.slice LG ng cG, .int .i64 PV] W fun e w' => e = .returned (.tuple #[SV SP, .int .i64 0]) ∧ Ext W w') := fun W h => by
        have := along_any LG ng cG lg PV W (hSG.ext h) hng.symm hPVle
        rw [hAE0] at this
        have e : alongV lg PV = SP := by unfold alongV; rw [hAE0, if_neg (by decide)]; exact HSPe.out.symm
        rwa [e] at this
      clear hSG hng hAE0 hPVle
      have hkk : (k : Int) < nN := by omega
      have hkk0 : (0 : Int) ≤ k := by omega
      have hDD : (D : Int) < nE := by omega
      have hDD0 : (0 : Int) ≤ D := by omega
      go_cut [12, 13] from 32 to 45 (fun pt ev wc => ∃ pb, pt = .pointer (some ⟨pb, 0, none⟩) ∧ ev = .int .i64 0 ∧ Blk 43 wc pb [.int .i64 SP.1, .int .i64 SP.2] ∧ Ext wq wc)
      case first =>
        have keep : ∀ W2 : World, Ext wq W2 → (Ext wq W2 ∧ W2.cell? ⟨nb, 0, none⟩ = some (.int .i64 (D : Int)) ∧ W2.cell? ⟨bg, og + D * 2 + 1, none⟩ = some (.slice LG ng cG) ∧ W2.cell? ⟨bp, op + k, none⟩ = some (.int .i64 PV)) := fun W2 hx => ⟨hx, hx.cell m0, hx.cell g1, hx.cell p0⟩
        have KEEP := Lib.hid keep; clear keep m0 m1 g1 p0
        go_region_held3 (fun W => Ext wq W ∧ W.cell? ⟨nb, 0, none⟩ = some (.int .i64 (D : Int)) ∧ W.cell? ⟨bg, og + D * 2 + 1, none⟩ = some (.slice LG ng cG) ∧ W.cell? ⟨bp, op + k, none⟩ = some (.int .i64 PV))
          (first | (with_reducible exact KEEP.out _ (Ext.setCell (Ext.setCell hx2 (p := ⟨wq.heap.size, 0, none⟩) (Nat.le_refl _) _) (p := ⟨wq.heap.size, 1, none⟩) (Nat.le_refl _) _)) | (with_reducible assumption) | (with_reducible exact KEEP.out _ (Ext.drew (Ext.refl _))) | (with_reducible exact KEEP.out _ (Ext.drew (Ext.alloc (Ext.refl _) _))) | (with_reducible exact KEEP.out _ hx2) | (with_reducible exact KEEP.out _ (Ext.alloc hx2 _)) | fail)
          (first
            | (go_at_call 36; (with_reducible refine (HAP.out wq.drew (Ext.drew (Ext.refl _))).mono ?_); rintro e w2 ⟨rfl, he2⟩; have hx2 : Ext wq w2 := (Ext.drew (Ext.refl _)).trans he2)
            | (go_at_call 36; (with_reducible refine (HAP.out (wq.alloc (.cells #[.int .i64 0, .int .i64 0] 43)).drew (Ext.drew (Ext.alloc (Ext.refl _) _))).mono ?_); rintro e w2 ⟨rfl, he2⟩; have hx2 : Ext wq w2 := (Ext.drew (Ext.alloc (Ext.refl _) _)).trans he2; have hB1 : Blk 43 w2 wq.heap.size [.int .i64 0, .int .i64 0] := Blk.ext (Blk.ext (Blk.new' rfl) (Ext.drew (Ext.refl _))) he2; obtain ⟨s0, s1⟩ := blk2 hB1; have e0 := hB1.frozen 0; have e1 := hB1.frozen 1; have HB1' := Lib.hid hB1; clear hB1)
            | fail)
        all_goals
          go_wp2_with fail
          go_meet
        all_goals first
          | exact ⟨w2.heap.size, rfl, rfl, Blk.new' rfl, hx2.alloc _⟩
          | exact ⟨wq.heap.size, rfl, rfl, (HB1'.out.set 0 (.int .i64 SP.1)).set 1 (.int .i64 SP.2), (hx2.setCell (Nat.le_refl _) _).setCell (Nat.le_refl _) _⟩
          | fail
      case rest =>
        obtain ⟨pb, hpb, hev, hBp, hxc⟩ := hcut
        subst hpb; subst hev
        clear m0 m1 g1 p0
        obtain ⟨wz, rfl⟩ : ∃ wz : World, wz = wc := ⟨_, rfl⟩
        have HXz := Lib.hid (HXq.out.trans hxc)
        have HOz := Lib.hid (own_ext HO.out (HXrq.out.trans hxc))
        obtain ⟨q0, q1⟩ := blk2 hBp
        have hbb : w1.heap.size ≤ wz.heap.size := HXz.out.size
        clear hBp hxc
        obtain ⟨Y1, Y2⟩ := SP
        simp only at q0 q1
        have hlk := HLKL.out
        have H63 : Hid (LK.length + 1 ≤ maxLen) := by show _ ≤ _; unfold maxLen; omega
        have H64 : Hid ((LK.length + 1) * 16 ≤ 140737488355328) := by show _ ≤ _; omega
        have HC6 : Hid (w1.heap.size ≤ (wz.alloc (.cells #[.int .i64 Y1, .int .i64 Y2] 43)).heap.size) := by show _ ≤ _; simp; omega
        clear hlk
        go_wp2_with (at_builtin; refine wpList_append_own _ rfl (.tmp 49) (.tmp 51) 24 rfl w1.heap.size 43 i0 (.agg #[.int .i64 0, .int .i64 0]) 2 16 Try.underlying24 hi0 hz0 hz1 hz2 rfl (by decide) _ LK.length (scells LK) rfl (World.ownsRow.alloc HOz.out _) ⟨wz.heap.size, 0, none⟩ 1 1 [.int .i64 Y1, .int .i64 Y2] rfl rfl (World.news_of_block (cs := #[.int .i64 Y1, .int .i64 Y2]) (t := 43) (fr := (0, 0)) (heap_alloc_new wz _)) (by simp [Value.oneCell']) H63.out H64.out HC6.out ?_)
        intro v' w4 hown' hgrow _
        have hO' : OwnT 43 w4 w1.heap.size v' (spTo p m (k + 1)) := by
          rw [spTo_succ, ← HLKE.out, ← HSPd.out]
          unfold OwnT
          rw [List.length_append, scells_append]
          exact hown'
        have hx' : Ext w1 w4 := (HXz.out.alloc _).grown hgrow (fun g hg => (World.ownsRow.lt HO.out g hg).1)
        have HO' := Lib.hid hO'; clear hO' hown' hgrow
        go_wp2_with fail
        go_roundw
        case rel => exact ⟨k + 1, by omega, by go_num, HO'.out, hx'⟩
        case measure => simp [intOf]; omega
    · obtain rfl : k = nN := by omega
      go_wp2_with fail
      go_ret2
      refine ⟨_, by rw [HPZ.out]; rfl, fun _ => ?_, fun h => absurd HPZ.out h, HXw.out⟩
      unfold spL
      rw [HLN.out, ← HLKE.out]
      exact own_base_le HO.out HX1.out.size
end Go.Proofs.Ytliijigdbpmpaaa
/- what is kept behind an append to a field; plain words on rows -/
namespace Go.Proofs.Ytliijigdbpmpaaa
open Go.RowKit
theorem Kept.grown {K : Nat → Prop} {a b c : World} {row : Option Nat} (h : Kept K a b) (hg : b.grownBy c row) (hr : ∀ k, row = some k → a.heap.size ≤ k ∨ K k) : Kept K a c :=
  ⟨hg.os.trans h.os, hg.tape.trans h.tape, hg.output.trans h.output, Nat.le_trans h.size hg.size, fun i hi hn => (hg.block i (Nat.lt_of_lt_of_le hi h.size) (fun e => by rcases hr i e.symm with q | q; omega; exact hn q)).trans (h.block i hi hn)⟩
/- behind an append to a field of a piece of the call's own -/
theorem field_fin {wc W wn : World} {ob j size n : Nat} {t T : TypeId} {V v : Value} {pc xs : List Value} (ht : t ≠ T) (hQ : Blk T W ob pc) (hv : ∃ s m ys, W.ownsRow wc.heap.size t s V m ys) (hg : W.grownBy wn V.ownBlock)
    (ho : wn.ownsRow wc.heap.size t size v n xs) (hk : Kept (fun k => k = ob) wc W) :
    Blk T (wn.setCell ⟨ob, j, none⟩ v) ob (pc.set j v) ∧ (wn.setCell ⟨ob, j, none⟩ v).ownsRow wc.heap.size t size v n xs ∧ Kept (fun k => k = ob) wc (wn.setCell ⟨ob, j, none⟩ v) := by
  obtain ⟨s, m, ys, hv⟩ := hv
  have h1 : V.ownBlock ≠ some ob := own_blk_ne hv hQ ht
  have hQ' : Blk T wn ob pc := (hg.block _ hQ.lt (Ne.symm h1)).trans hQ
  exact ⟨hQ'.set j v, own_set ho (own_blk_ne ho hQ' ht) v, (hk.grown hg (fun g hg' => .inl (own_ge hv hg'))).set (.inr rfl) v⟩
theorem gS_take_succ {l : List Spot} {k : Nat} (h : k < l.length) : l.take (k + 1) = l.take k ++ [gS l k] := by rw [gS_eq h]; exact take_succ l k h
theorem gI_take_succ {l : List Int} {k : Nat} (h : k < l.length) : l.take (k + 1) = l.take k ++ [gI l k] := by rw [gI_eq h]; exact take_succ l k h
end Go.Proofs.Ytliijigdbpmpaaa
/- garmentlaw23.wedge -/
namespace Go.Proofs.Ytliijigdbpmpaaa
open Go.RowKit
def hemN : ByteArray := ⟨#[104, 101, 109]⟩
def sideN : ByteArray := ⟨#[115, 105, 100, 101]⟩
def wdP : Pc := ⟨[(hemN, [(0, 0), (8, 0)]), (sideN, [(8, 0), (8, 6), (0, 0)])], [(0, 0), (4, 0)], [], [(0, 2000), (1, 6000)]⟩
def wdB : Pc := ⟨[(hemN, [(0, 0), (8, 0)]), (sideN, [(8, 0), (8, 6), (0, 0)])], [(0, 0), (4, 0)], [], [(0, 8001), (1, 6000)]⟩
def wdS : Sty := ⟨[0, 1], [wdP], [⟨0, 0, 0, 0, false, 0⟩]⟩
def wdT : Sty := ⟨[0], [wdP], [⟨0, 0, 0, 0, true, 0⟩]⟩
theorem wd_e0 : plE wdP 0 = 0 := by decide +kernel
theorem wd_e1 : plE wdP 1 = 0 := by decide +kernel
theorem wd_l0 : plL wdP 0 = [2000, 6000] := by decide +kernel
theorem wd_l1 : plL wdP 1 = [3000, 6744] := by decide +kernel
theorem wd_eb : plE wdB 0 = 3 := by decide +kernel
theorem wd_se : unmE wdS 1 = 0 := by decide +kernel
theorem wd_sl : unmL wdS 1 = [] := by decide +kernel
theorem wd_te : unmE wdT 0 = 0 := by decide +kernel
theorem wd_tl : unmL wdT 0 = [(1, 0, 0), (2, 0, 0)] := by decide +kernel
theorem wd_t1 : unmE wdT 1 = 3 := by decide +kernel
theorem wd_s1 : spL wdP 1 = [(3, 0), gS (spL wdP 1) 1] := by decide +kernel
/- the blocks of the wedge, from block b on; x is the first notch's place -/
structure WdB (W : World) (b : Nat) (x : Int) : Prop where
  h : Blk 43 W b (scells [(0, 0), (8, 0)])
  s : Blk 43 W (b + 1) (scells [(8, 0), (8, 6), (0, 0)])
  e : Blk 40 W (b + 1 + 1) [.string hemN, .slice (some ⟨b, 0, none⟩) 2 2, .string sideN, .slice (some ⟨b + 1, 0, none⟩) 3 3]
  c : Blk 43 W (b + 1 + 1 + 1) (scells [(0, 0), (4, 0)])
  n : Blk 36 W (b + 1 + 1 + 1 + 1) (scells [(0, x), (1, 6000)])
theorem WdB.ext {W W' : World} {b : Nat} {x : Int} (h : WdB W b x) (he : Ext W W') : WdB W' b x := ⟨h.h.ext he, h.s.ext he, h.e.ext he, h.c.ext he, h.n.ext he⟩
theorem WdB.kept {K : Nat → Prop} {W W' : World} {b : Nat} {x : Int} (h : WdB W b x) (he : Kept K W W') (hk : ∀ k, b ≤ k → ¬ K k) : WdB W' b x :=
  ⟨he.blk h.h (hk _ (by omega)), he.blk h.s (hk _ (by omega)), he.blk h.e (hk _ (by omega)), he.blk h.c (hk _ (by omega)), he.blk h.n (hk _ (by omega))⟩
def wdA (b : Nat) : PcA := ⟨⟨#[]⟩, some ⟨b + 1 + 1, 0, none⟩, 2, 2, 0, some ⟨b + 1 + 1 + 1 + 1, 0, none⟩, 2, 2, some ⟨b + 1 + 1 + 1, 0, none⟩, 2, 2, none, 0, 0, false⟩
def wdX (x : Int) : Pc := ⟨[(hemN, [(0, 0), (8, 0)]), (sideN, [(8, 0), (8, 6), (0, 0)])], [(0, 0), (4, 0)], [], [(0, x), (1, 6000)]⟩
theorem spots_blk {t : TypeId} {W : World} {g : Nat} {l : List Spot} (h : Blk t W g (scells l)) : SpotsAt W (some ⟨g, 0, none⟩) l := SpotsAt.of_cells fun j u hu => by rw [Nat.zero_add, h.cell]; exact hu
theorem WdB.at {W : World} {b : Nat} {x : Int} (h : WdB W b x) : PcAt W (wdA b) (wdX x) := by
  refine ⟨fun k hk => ?_, rfl, Nat.le_refl _, Nat.le_of_ble_eq_true rfl, spots_blk h.c, rfl, Nat.le_of_ble_eq_true rfl, IntsAt.nil, rfl, spots_blk h.n, rfl, Nat.le_of_ble_eq_true rfl, Nat.le_of_ble_eq_true rfl⟩
  match k, hk with
  | 0, _ => exact ⟨b + 1 + 1, 0, some ⟨b, 0, none⟩, 2, rfl, h.e.cell 0, h.e.cell 1, spots_blk h.h, Nat.le_refl _, Nat.le_of_ble_eq_true rfl⟩
  | 1, _ => exact ⟨b + 1 + 1, 0, some ⟨b + 1, 0, none⟩, 3, rfl, h.e.cell 2, h.e.cell 3, spots_blk h.s, Nat.le_refl _, Nat.le_of_ble_eq_true rfl⟩
def RetWd (w : World) (e : Ending) (w' : World) : Prop := e = .returned (PcA.val (wdA (w.heap.size + 1))) ∧ WdB w' (w.heap.size + 1) 2000 ∧ Ext w w'
def wdW (w : World) : World :=
  ((((((w.alloc (.cells #[.string ⟨#[]⟩, .slice (some ⟨w.heap.size + 1 + 1 + 1, 0, none⟩) 2 2, .int .i64 0, .slice (some ⟨w.heap.size + 1 + 1 + 1 + 1 + 1, 0, none⟩) 2 2, .slice (some ⟨w.heap.size + 1 + 1 + 1 + 1, 0, none⟩) 2 2, .slice none 0 0, .bool false] 27)).alloc
    (.cells #[.int .i64 0, .int .i64 0, .int .i64 8, .int .i64 0] 43)).alloc
    (.cells #[.int .i64 8, .int .i64 0, .int .i64 8, .int .i64 6, .int .i64 0, .int .i64 0] 43)).alloc
    (.cells #[.string hemN, .slice (some ⟨w.heap.size + 1, 0, none⟩) 2 2, .string sideN, .slice (some ⟨w.heap.size + 1 + 1, 0, none⟩) 3 3] 40)).alloc
    (.cells #[.int .i64 0, .int .i64 0, .int .i64 4, .int .i64 0] 43)).alloc
    (.cells #[.int .i64 0, .int .i64 2000, .int .i64 1, .int .i64 6000] 36))
theorem ext1 (w : World) (o : Obj) : Ext w (w.alloc o) := (Ext.refl w).alloc o
theorem wdW_R (w : World) : Blk 27 (wdW w) w.heap.size [.string ⟨#[]⟩, .slice (some ⟨w.heap.size + 1 + 1 + 1, 0, none⟩) 2 2, .int .i64 0, .slice (some ⟨w.heap.size + 1 + 1 + 1 + 1 + 1, 0, none⟩) 2 2, .slice (some ⟨w.heap.size + 1 + 1 + 1 + 1, 0, none⟩) 2 2, .slice none 0 0, .bool false] :=
  (((((Blk.new' rfl).ext (ext1 _ _)).ext (ext1 _ _)).ext (ext1 _ _)).ext (ext1 _ _)).ext (ext1 _ _)
theorem wdW_B (w : World) : WdB (wdW w) (w.heap.size + 1) 2000 :=
  ⟨((((Blk.new' (by simp)).ext (ext1 _ _)).ext (ext1 _ _)).ext (ext1 _ _)).ext (ext1 _ _), (((Blk.new' (by simp)).ext (ext1 _ _)).ext (ext1 _ _)).ext (ext1 _ _), ((Blk.new' (by simp)).ext (ext1 _ _)).ext (ext1 _ _), (Blk.new' (by simp)).ext (ext1 _ _), Blk.new' (by simp)⟩
theorem wdW_X (w : World) : Ext w (wdW w) := ((((((Ext.refl w).alloc _).alloc _).alloc _).alloc _).alloc _).alloc _
set_option maxRecDepth 100000 in
set_option maxHeartbeats 1600000 in
theorem wedge_any (w : World) : Calls Try.prog 27 #[] w (RetWd w) := by
  go_enter Try.func27, Try.ntmps27
  go_wp2_with fail
  obtain ⟨r0, r1, r2, r3, r4, r5, r6⟩ := blk7 (wdW_R w)
  have hB := wdW_B w
  have hX := wdW_X w
  show bodyPost _ _ _ _ _ (wdW w)
  generalize wdW w = W at r0 r1 r2 r3 r4 r5 r6 hB hX ⊢
  refine bodyPost_ret (v := PcA.val (wdA (w.heap.size + 1))) (by simp [results, Try.results27, go_sem, r0, r1, r2, r3, r4, r5, r6, PcA.val, wdA]) rfl ?_
  exact ⟨rfl, hB, hX⟩
end Go.Proofs.Ytliijigdbpmpaaa
namespace Go.Proofs.Ytliijigdbpmpaaa
open Go.RowKit
def gK (l : List Iss) (k : Nat) : Iss := l.getD k (0, 0, 0)
def IssAt (w : World) (A : Option Addr) (l : List Iss) : Prop := ∀ k, k < l.length → ∃ b off, A = some ⟨b, off, none⟩ ∧ w.cell? ⟨b, off + k * 3, none⟩ = some (.int .i64 (gK l k).1) ∧ w.cell? ⟨b, off + k * 3 + 1, none⟩ = some (.int .i64 (gK l k).2.1) ∧ w.cell? ⟨b, off + k * 3 + 2, none⟩ = some (.int .i64 (gK l k).2.2)
theorem IssAt.ext {w w' : World} {A : Option Addr} {l : List Iss} (h : IssAt w A l) (he : Ext w w') : IssAt w' A l := fun k hk => by
  obtain ⟨b, off, e, h0, h1, h2⟩ := h k hk
  exact ⟨b, off, e, he.cell h0, he.cell h1, he.cell h2⟩
theorem isscells_get (l : List Iss) : ∀ k, k < l.length → (isscells l)[k * 3]? = some (.int .i64 (gK l k).1) ∧ (isscells l)[k * 3 + 1]? = some (.int .i64 (gK l k).2.1) ∧ (isscells l)[k * 3 + 2]? = some (.int .i64 (gK l k).2.2) := by
  induction l with
  | nil => intro k hk; exact absurd hk (Nat.not_lt_zero _)
  | cons a l ih =>
    intro k hk
    cases k with
    | zero => exact ⟨rfl, rfl, rfl⟩
    | succ k =>
      obtain ⟨h0, h1, h2⟩ := ih k (by simpa using hk)
      have e : isscells (a :: l) = .int .i64 a.1 :: .int .i64 a.2.1 :: .int .i64 a.2.2 :: isscells l := rfl
      rw [e, show (k + 1) * 3 = k * 3 + 1 + 1 + 1 by omega]
      exact ⟨h0, h1, h2⟩
theorem OwnK.slice' {w : World} {base : Nat} {v : Value} {l : List Iss} {n : Nat} (h : OwnK w base v l) (hn : l.length = n) :
    ∃ A cap, v = .slice A n cap ∧ IssAt w A l := by
  subst hn
  rcases h.2 with ⟨rfl, h0⟩ | ⟨g, cap, cur, rfl, hb, hh, hn, hm, hs, ht⟩
  · rw [List.eq_nil_of_length_eq_zero h0]
    exact ⟨none, 0, rfl, fun k hk => absurd hk (Nat.not_lt_zero _)⟩
  · refine ⟨_, cap, rfl, fun k hk => ⟨g, 0, rfl, ?_, ?_, ?_⟩⟩
    · have := World.ownsRow.cells h (g := g) rfl (k * 3) _ (isscells_get l k hk).1
      rwa [addr_add] at this
    · have := World.ownsRow.cells h (g := g) rfl (k * 3 + 1) _ (isscells_get l k hk).2.1
      rwa [addr_add] at this
    · have := World.ownsRow.cells h (g := g) rfl (k * 3 + 2) _ (isscells_get l k hk).2.2
      rwa [addr_add] at this
theorem IssAt.blk {t : TypeId} {w : World} {g : Nat} {l : List Iss} (h : Blk t w g (isscells l)) : IssAt w (some ⟨g, 0, none⟩) l := fun k hk => by
  obtain ⟨h0, h1, h2⟩ := isscells_get l k hk
  exact ⟨g, 0, rfl, by rw [Nat.zero_add, h.cell]; exact h0, by rw [Nat.zero_add, h.cell]; exact h1, by rw [Nat.zero_add, h.cell]; exact h2⟩
set_option maxHeartbeats 800000 in
theorem sameIss_eq (A B : Option Addr) (n c d : Nat) (l : List Iss) (w : World) (ha : IssAt w A l) (hb : IssAt w B l) (hl : l.length = n) (hn : n ≤ 1000000) :
    Calls Try.prog 28 #[.slice A n c, .slice B n d] w fun e w' => e = .returned (.bool true) ∧ Ext w w' := by
  have HL := Lib.hid hl; clear hl
  have HA := Lib.hid ha; clear ha
  have HB := Lib.hid hb; clear hb
  go_enter Try.func28, Try.ntmps28
  go_wp2
  go_loopw [5] (fun i wr => ∃ k : Nat, k ≤ n ∧ i = .int .i64 k ∧ ∃ q, wr = w.drewN q) (fun i _ => n - (intOf i).toNat)
  case atStart => exact ⟨0, Nat.zero_le _, rfl, 0, rfl⟩
  case round =>
    obtain ⟨k, hk, rfl, q, rfl⟩ := hrel
    by_cases hlt : k < n
    · have hkl : k < l.length := by rw [HL.out]; exact hlt
      obtain ⟨b, off, rfl, hc0, hc1, hc2⟩ := HA.out k hkl
      obtain ⟨b', off', rfl, hd0, hd1, hd2⟩ := HB.out k hkl
      go_wp2
      go_quiet (fail)
      go_wp2
      go_roundw
      case rel => exact ⟨k + 1, by omega, by go_num, _, rfl⟩
      case measure => simp [intOf]; omega
    · go_wp2
      go_ret
      exact ⟨rfl, Ext.drewN (Ext.refl _) _⟩
end Go.Proofs.Ytliijigdbpmpaaa
