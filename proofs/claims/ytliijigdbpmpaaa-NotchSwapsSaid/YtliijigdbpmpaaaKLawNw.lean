/- NotchSwaps returns true -/
import Derived.Deep.CutRange
import Derived.Deep.AppendLies
import Derived.Test.YtliijigdbpmpaaaKAwake
import Derived.Test.YtliijigdbpmpaaaKIssP
/- R21.Light, said of a piece -/
namespace Go.Proofs.Ytliijigdbpmpaaa
open Go.RowKit
structure LtP (p : Pc) (most : Nat) : Prop where
  e : p.es.length ≤ 20
  c : p.cs.length ≤ 20
  w : p.ws.length ≤ 20
  n : p.ns.length ≤ 20
  l : ∀ k, k < p.es.length → (gE p.es k).2.length ≤ most ∧ (gE p.es k).1.size ≤ 100
theorem lightP_any (a : PcA) (p : Pc) (most : Nat) (hm : most ≤ 1000) (w : World) (hp : PcAt w a p) :
    Calls Try.prog 26 #[a.val, .int .i64 (most : Int)] w fun e w' => ∃ b, e = .returned (.bool b) ∧ Ext w w' ∧ (b = true → LtP p most) :=
  (light_any a.nm a.AE a.AN a.AC a.AW a.nE a.cE a.nN a.cN a.nC a.cC a.nW a.cW a.gr a.mt p.es w most hm hp.e hp.le).mono fun e w' ⟨b, h1, h2, h3⟩ => ⟨b, h1, h2, fun hb => by
    obtain ⟨g1, g2, g3, g4, g5⟩ := h3 hb
    exact ⟨g1, by rw [hp.lc]; exact g2, by rw [hp.li]; exact g3, by rw [hp.ln]; exact g4, g5⟩⟩
end Go.Proofs.Ytliijigdbpmpaaa
/- garmentref23.Light -/
namespace Go.Proofs.Ytliijigdbpmpaaa
open Go.RowKit
def RetL3 (w : World) (p : Pc) (e : Ending) (w' : World) : Prop := ∃ b, e = .returned (.bool b) ∧ Ext w w' ∧ (b = true → LtP p 60)
set_option maxRecDepth 100000 in
set_option maxHeartbeats 1600000 in
theorem light3_any (a : PcA) (p : Pc) (w : World) (hp : PcAt w a p) :
    Calls Try.prog 9 #[a.val] w (RetL3 w p) := by
  have HL := Lib.hid (fun W (h : Ext w W) => lightP_any a p 60 (by omega) W (hp.ext h))
  clear hp
  obtain ⟨nm, AE, nE, cE, gr, AN, nN, cN, AC, nC, cC, AW, nW, cW, mt⟩ := a
  simp only [PcA.val] at HL ⊢
  go_enter Try.func9, Try.ntmps9
  go_wp2_with fail
  refine (HL.out _ ((Ext.refl _).alloc _)).mono ?_
  rintro e w1 ⟨b, rfl, he, hb⟩
  have HX := Lib.hid (((Ext.refl w).alloc _).trans he); have HB := Lib.hid hb
  clear he hb
  go_wp2_with fail
  go_ret
  exact ⟨b, rfl, HX.out, HB.out⟩
end Go.Proofs.Ytliijigdbpmpaaa
/- garmentref23.Few -/
namespace Go.Proofs.Ytliijigdbpmpaaa
open Go.RowKit
structure FwS (s : Sty) : Prop where
  P : s.ps.length ≤ 4
  K : s.ss.length ≤ 6
  M : s.ms.length ≤ 20
  p : ∀ k, k < s.ps.length → LtP (gPc s.ps k) 60
def RetFw (w : World) (s : Sty) (e : Ending) (w' : World) : Prop := ∃ b, e = .returned (.bool b) ∧ Ext w w' ∧ (b = true → FwS s)
set_option maxRecDepth 100000 in
set_option maxHeartbeats 1600000 in
theorem few_any (a : StyA) (s : Sty) (w : World) (hs : StyAt w a s) :
    Calls Try.prog 20 #[a.val] w (RetFw w s) := by
  have HS := Lib.hid hs; clear hs
  obtain ⟨nm, AS, nS, cS, AM, nM, cM, AP, nP, cP, AU, nU, cU, AK, nK, cK, AO, nO, cO⟩ := a
  have HLP : Hid (s.ps.length = nP) := HS.out.lP
  have HLK : Hid (s.ss.length = nK) := HS.out.lK
  have HLM : Hid (s.ms.length = nM) := HS.out.lM
  have HPS := Lib.hid HS.out.P
  simp only [StyA.val] at HPS ⊢
  by_cases h1 : 4 < nP
  · go_enter Try.func20, Try.ntmps20
    go_wp2_with fail
    go_ret
    exact ⟨_, rfl, (Ext.refl _).alloc _, fun h => by cases h⟩
  by_cases h2 : 6 < nK
  · go_enter Try.func20, Try.ntmps20
    go_wp2_with fail
    go_ret
    exact ⟨_, rfl, (Ext.refl _).alloc _, fun h => by cases h⟩
  by_cases h3 : 20 < nM
  · go_enter Try.func20, Try.ntmps20
    go_wp2_with fail
    go_ret
    exact ⟨_, rfl, (Ext.refl _).alloc _, fun h => by cases h⟩
  by_cases h4 : 20 < nS
  · go_enter Try.func20, Try.ntmps20
    go_wp2_with fail
    go_ret
    exact ⟨_, rfl, (Ext.refl _).alloc _, fun h => by cases h⟩
  go_enter Try.func20, Try.ntmps20
  go_wp2_with fail
  refine wp_at fun W0 hW0 => ?_
  have hB : Blk 59 W0 w.heap.size [.string nm, .slice AS nS cS, .slice AM nM cM, .slice AP nP cP, .slice AU nU cU, .slice AK nK cK, .slice AO nO cO] := by rw [hW0]; exact Blk.new' rfl
  have hx0 : Ext w W0 := by rw [hW0]; exact (Ext.refl _).alloc _
  have HB := Lib.hid hB; have HX0 := Lib.hid hx0; clear hW0 hB hx0
  go_loopw [3] (fun i wr => ∃ k : Nat, k ≤ nP ∧ i = .int .i64 k ∧ (∀ j, j < k → LtP (gPc s.ps j) 60) ∧ Ext W0 wr) (fun i _ => nP - (intOf i).toNat)
  case atStart => exact ⟨0, Nat.zero_le _, rfl, fun j hj => absurd hj (Nat.not_lt_zero _), Ext.refl _⟩
  case round =>
    obtain ⟨k, hk, rfl, hall, hx⟩ := hrel
    have HALL := Lib.hid hall; have HX := Lib.hid hx; clear hall hx
    obtain ⟨c0, c1, c2, c3, c4, c5, c6⟩ := blk7 (HB.out.ext HX.out)
    by_cases hlt : k < nP
    · obtain ⟨bp, op, q, hAP, hpA, hcA⟩ := (HPS.out.ext (HX0.out.trans HX.out)) k (by rw [HLP.out]; exact hlt)
      subst hAP
      have HC := Lib.hid (light3_any q (gPc s.ps k) wr hpA)
      clear hpA
      obtain ⟨pnm, pAE, pnE, pcE, pgr, pAN, pnN, pcN, pAC, pnC, pcC, pAW, pnW, pcW, pmt⟩ := q
      obtain ⟨a0, a1, a2, a3, a4, a5, a6⟩ := hcA
      simp only [PcA.val] at HC a0 a1 a2 a3 a4 a5 a6
      go_wp2_with fail
      refine HC.out.mono ?_
      rintro e w1 ⟨b, rfl, he1, hb⟩
      clear a0 a1 a2 a3 a4 a5 a6 c0 c1 c2 c3 c4 c5 c6
      cases b
      · go_wp2_with fail
        go_ret
        exact ⟨_, rfl, (HX0.out.trans HX.out).trans he1, fun h => by cases h⟩
      · have HLT := Lib.hid (hb rfl); clear hb
        go_wp2_with fail
        go_roundw
        case rel => exact ⟨k + 1, by omega, by go_num, fun j hj => by
          rcases Nat.lt_succ_iff_lt_or_eq.1 hj with h | h
          · exact HALL.out j h
          · subst h; exact HLT.out, HX.out.trans he1⟩
        case measure => simp [intOf]; omega
    · obtain rfl : k = nP := by omega
      go_wp2_with fail
      go_ret
      exact ⟨_, rfl, HX0.out.trans HX.out, fun _ => ⟨by rw [HLP.out]; omega, by rw [HLK.out]; omega, by rw [HLM.out]; omega, fun j hj => HALL.out j (by rw [← HLP.out]; exact hj)⟩⟩
end Go.Proofs.Ytliijigdbpmpaaa
/- garmentlaw23.has -/
namespace Go.Proofs.Ytliijigdbpmpaaa
open Go.RowKit
def eqK (a b : Iss) : Bool := decide (a = b)
theorem eqK_iff (a b : Iss) : eqK a b = true ↔ a = b := by unfold eqK; exact decide_eq_true_iff
@[go_sem high] theorem run_eql_issue (w : World) (a b c d e f : Int) : (binOp .eql 69 (.agg #[.int .i64 a, .int .i64 b, .int .i64 c]) (.agg #[.int .i64 d, .int .i64 e, .int .i64 f])).run Try.prog w = .ok (.bool (eqK (a, b, c) (d, e, f))) w := by
  simp only [eqK, Prod.mk.injEq]
  by_cases h : a = d <;> by_cases h' : b = e <;> by_cases h'' : c = f <;> simp [go_sem, h, h', h'']
def memB (l : List Iss) (x : Iss) : Bool := decide (x ∈ l)
theorem gK_eq {l : List Iss} {k : Nat} (h : k < l.length) : gK l k = l[k] := by simp [gK, h]
set_option maxRecDepth 100000 in
set_option maxHeartbeats 800000 in
theorem lhas_any (A : Option Addr) (n c : Nat) (l : List Iss) (x0 x1 x2 : Int) (w : World) (ha : IssAt w A l) (hl : l.length = n) (hn : n ≤ 1000000) :
    Calls Try.prog 23 #[.slice A n c, .agg #[.int .i64 x0, .int .i64 x1, .int .i64 x2]] w fun e w' => e = .returned (.bool (memB l (x0, x1, x2))) ∧ Ext w w' := by
  have HL := Lib.hid hl; clear hl
  have HA := Lib.hid ha; clear ha
  go_enter Try.func23, Try.ntmps23
  go_wp2_with fail
  refine wp_at fun W0 hW0 => ?_
  have hB : Blk 69 W0 w.heap.size [.int .i64 x0, .int .i64 x1, .int .i64 x2] := by rw [hW0]; exact Blk.new' rfl
  have hx0' : Ext w W0 := by rw [hW0]; exact (Ext.refl _).alloc _
  have HB := Lib.hid hB; have HX0 := Lib.hid hx0'; clear hW0 hB hx0'
  go_loopw [5] (fun i wr => ∃ k : Nat, k ≤ n ∧ i = .int .i64 k ∧ (∀ j, j < k → gK l j ≠ (x0, x1, x2)) ∧ Ext W0 wr) (fun i _ => n - (intOf i).toNat)
  case atStart => exact ⟨0, Nat.zero_le _, rfl, fun j hj => absurd hj (Nat.not_lt_zero _), Ext.refl _⟩
  case round =>
    obtain ⟨k, hk, rfl, hall, hx⟩ := hrel
    have HALL := Lib.hid hall; have HX := Lib.hid hx; clear hall hx
    by_cases hlt : k < n
    · have hkl : k < l.length := by rw [HL.out]; exact hlt
      obtain ⟨b, off, hA, d0, d1, d2⟩ := (HA.out.ext (HX0.out.trans HX.out)) k hkl
      subst hA
      have e0 := (HB.out.ext HX.out).cell 0
      have e1 := (HB.out.ext HX.out).cell 1
      have e2 := (HB.out.ext HX.out).cell 2
      simp only [List.getElem?_cons_succ, List.getElem?_cons_zero] at e0 e1 e2
      obtain ⟨g, hg⟩ : ∃ g, g = gK l k := ⟨_, rfl⟩
      rw [← hg] at d0 d1 d2
      have HG := Lib.hid hg; clear hg
      obtain ⟨g0, g1, g2⟩ := g
      simp only at d0 d1 d2
      by_cases he : (g0, g1, g2) = (x0, x1, x2)
      · have hb : eqK (g0, g1, g2) (x0, x1, x2) = true := (eqK_iff _ _).2 he
        have HM : Hid (memB l (x0, x1, x2) = true) := by show _ = _; unfold memB; refine decide_eq_true ?_; rw [← he, HG.out, gK_eq hkl]; exact List.getElem_mem _
        clear he
        go_upto_region 4 with fail
        go_quiet (fail)
        go_wp2_with fail
        go_ret
        exact ⟨ret_bool HM.out.symm, (HX0.out.trans HX.out).drewN _⟩
      · have hb : eqK (g0, g1, g2) (x0, x1, x2) = false := by rw [Bool.eq_false_iff]; exact fun h => he ((eqK_iff _ _).1 h)
        have HM : Hid (gK l k ≠ (x0, x1, x2)) := by show _ ≠ _; rw [← HG.out]; exact he
        clear he
        go_upto_region 4 with fail
        go_quiet (fail)
        go_wp2_with fail
        go_roundw
        case rel => exact ⟨k + 1, by omega, by go_num, fun j hj => (Nat.lt_succ_iff_lt_or_eq.1 hj).elim (HALL.out j) (fun e => by rw [e]; exact HM.out), HX.out.drewN _⟩
        case measure => simp [intOf]; omega
    · obtain rfl : k = n := by omega
      have HM : Hid (memB l (x0, x1, x2) = false) := by
        show _ = _
        unfold memB
        refine decide_eq_false fun h => ?_
        obtain ⟨j, hj, e⟩ := List.getElem_of_mem h
        exact HALL.out j (by rw [← HL.out]; exact hj) (by rw [gK_eq hj]; exact e)
      go_wp2_with fail
      go_ret
      exact ⟨ret_bool HM.out.symm, HX0.out.trans HX.out⟩
end Go.Proofs.Ytliijigdbpmpaaa
namespace Go.Proofs.Ytliijigdbpmpaaa
open Go.RowKit
def OwnM (w : World) (base : Nat) (v : Value) (l : List Sm) : Prop := w.ownsRow base 53 6 v l.length (smcells l)
theorem smcells_append (a b : List Sm) : smcells (a ++ b) = smcells a ++ smcells b := by simp [smcells]
theorem OwnM.slice' {w : World} {base : Nat} {v : Value} {l : List Sm} {n : Nat} (h : OwnM w base v l) (hn : l.length = n) :
    ∃ A c, v = .slice A n c ∧ SeamsAt w A l := by
  subst hn
  rcases h.2 with ⟨e, h0⟩ | ⟨g, cap, cur, e, h1⟩
  · refine ⟨none, 0, by rw [h0]; exact e, fun k hk => by omega⟩
  · refine ⟨some ⟨g, 0, none⟩, cap, e, fun k hk => ⟨g, 0, rfl, ?_⟩⟩
    subst e
    have key : ∀ j, j < 6 → w.cell? ⟨g, 0 + k * 6 + j, none⟩ = [Value.int .i64 (gSm l k).pa, .int .i64 (gSm l k).ea, .int .i64 (gSm l k).pb, .int .i64 (gSm l k).eb, .bool (gSm l k).rev, .int .i64 (gSm l k).ease][j]? := fun j hj => by
      have hg := smcells_get (l := l) hk hj
      obtain ⟨u, hu⟩ : ∃ u, (smcells l)[k * 6 + j]? = some u := ⟨_, List.getElem?_eq_getElem (by rw [smcells_length]; omega)⟩
      have := World.ownsRow.cells h (g := g) rfl (k * 6 + j) u hu
      rw [addr_add] at this
      rw [Nat.zero_add] at this ⊢
      rw [this, ← hg, hu]
    exact ⟨key 0 (by omega), key 1 (by omega), key 2 (by omega), key 3 (by omega), key 4 (by omega), key 5 (by omega)⟩
theorem sw_take {l : List Sm} {k : Nat} (h : k < l.length) : (l.take (k + 1)).map swSm = (l.take k).map swSm ++ [swSm (gSm l k)] := by
  rw [take_succ _ _ h, gSm_eq h, List.map_append]; rfl
/- behind an append to t.Seams: the row, t's block, what is kept -/
theorem seam_fin {w2 W wn : World} {L : List Sm} {V v : Value} {v0 v1 v2 v3 v4 v5 v6 : Value} (hQ : Blk 59 W w2.heap.size [v0, v1, v2, v3, v4, v5, v6]) (h1 : V.ownBlock ≠ some w2.heap.size) (hg : W.grownBy wn V.ownBlock)
    (ho : wn.ownsRow w2.heap.size 53 6 v L.length (smcells L)) (hx : Ext w2 W) (hb : ∀ g, V.ownBlock = some g → w2.heap.size ≤ g) :
    Blk 59 (wn.setCell ⟨w2.heap.size, 5, none⟩ v) w2.heap.size [v0, v1, v2, v3, v4, v, v6] ∧ OwnM (wn.setCell ⟨w2.heap.size, 5, none⟩ v) w2.heap.size v L ∧ Ext w2 (wn.setCell ⟨w2.heap.size, 5, none⟩ v) := by
  have hQ' : Blk 59 wn w2.heap.size [v0, v1, v2, v3, v4, v5, v6] := (hg.block _ hQ.lt (Ne.symm h1)).trans hQ
  exact ⟨hQ'.set 5 v, own_set ho (own_blk_ne ho hQ' (by decide)) v, (hx.grown hg hb).setCell (by simp) v⟩
set_option maxRecDepth 100000 in
set_option maxHeartbeats 6400000 in
theorem swapsL_any (a : StyA) (s : Sty) (z : Int) (w : World) (hs : StyAt w a s) :
    Calls Try.prog 7 #[a.val, .int .i64 z] w fun e w' => e = .returned (.bool true) ∧ Ext w w' := by
  have HS := Lib.hid hs; clear hs
  have H1 := Lib.hid (fun W (h : Ext w W) => few_any a s W (HS.out.ext h))
  have H2 := Lib.hid (fun W (h : Ext w W) (hf : FwS s) => unmatched_any a s z W (HS.out.ext h) (by have := hf.K; rw [HS.out.lK] at this; omega))
  have HO1 := Lib.hid (fun (AK' : Option Addr) (cK' : Nat) W (h : Ext w W) (hk : SeamsAt W AK' (swAll s).ss) => show StyAt W { a with AK := AK', cK := cK' } (swAll s) from ⟨HS.out.M.ext h, HS.out.P.ext h, hk, HS.out.lM, HS.out.lP, by rw [swAll_len]; exact HS.out.lK, HS.out.bM, HS.out.bP, HS.out.bK⟩)
  have H4 := Lib.hid (fun (AK' : Option Addr) (cK' : Nat) W (h : Ext w W) (hk : SeamsAt W AK' (swAll s).ss) (hf : FwS s) => unmatched_any { a with AK := AK', cK := cK' } (swAll s) z W (HO1.out AK' cK' W h hk) (by have := hf.K; rw [HS.out.lK] at this; simp only; omega))
  have HLK := Lib.hid HS.out.lK
  have HKS := Lib.hid HS.out.K
  obtain ⟨nm, AS, nS, cS, AM, nM, cM, AP, nP, cP, AU, nU, cU, AK, nK, cK, AO, nO, cO⟩ := a
  simp only [StyA.val] at H1 H2 H4 HLK HKS ⊢
  clear HS HO1
  obtain ⟨i0, hi0, hz0, hz1, hz2⟩ := info_parts seam_info
  go_enter Try.func7, Try.ntmps7
  go_wp2_with fail
  refine (H1.out _ ((Ext.refl _).alloc _)).mono ?_
  rintro e w1 ⟨b, rfl, he1, hb⟩
  have HB1 : Hid (Blk 59 w1 w.heap.size [.string nm, .slice AS nS cS, .slice AM nM cM, .slice AP nP cP, .slice AU nU cU, .slice AK nK cK, .slice AO nO cO]) := (Blk.new' rfl).ext he1
  have HX1 := Lib.hid (((Ext.refl w).alloc _).trans he1)
  clear he1
  cases b
  · clear hb
    go_wp2_with fail
    refine (awake_any _).mono ?_
    rintro e w2 ⟨rfl, he2⟩
    go_wp2_with fail
    go_ret
    exact ⟨rfl, HX1.out.trans he2⟩
  have HFW := Lib.hid (hb rfl); clear hb
  have hK6 : nK ≤ 6 := by rw [← HLK.out]; exact HFW.out.K
  obtain ⟨c0, c1, c2, c3, c4, c5, c6⟩ := blk7 HB1.out
  have hpl : w.heap.size < w1.heap.size := HB1.out.lt
  go_wp2_with fail
  refine wp_at fun W3 hW3 => ?_
  have hQ3 : Blk 59 W3 w1.heap.size [.string nm, .slice AS nS cS, .slice AM nM cM, .slice AP nP cP, .slice AU nU cU, .slice none 0 0, .slice AO nO cO] := by rw [hW3]; exact Blk.new' rfl
  have hx3 : Ext w1 W3 := by rw [hW3]; exact (Ext.refl _).alloc _
  clear hW3 c0 c1 c2 c3 c4 c5 c6 hpl
  go_loopw [6] (fun i wr => ∃ (k : Nat) (v : Value), k ≤ nK ∧ i = .int .i64 k ∧ Blk 59 wr w1.heap.size [.string nm, .slice AS nS cS, .slice AM nM cM, .slice AP nP cP, .slice AU nU cU, v, .slice AO nO cO] ∧ OwnM wr w1.heap.size v ((s.ss.take k).map swSm) ∧ Ext w1 wr) (fun i _ => nK - (intOf i).toNat)
  case atStart => exact ⟨0, _, Nat.zero_le _, rfl, hQ3, World.ownsRow_nil _ _ _ _, hx3⟩
  case round =>
    clear hQ3 hx3
    obtain ⟨k, v, hk, rfl, hQ, hO, hx⟩ := hrel
    have hlk : ((s.ss.take k).map swSm).length = k := by rw [List.length_map, List.length_take, HLK.out]; omega
    obtain ⟨VA, vc, hvf, hSA⟩ := hO.slice' hlk
    subst hvf
    obtain ⟨LK, hLK⟩ : ∃ LK, LK = (s.ss.take k).map swSm := ⟨_, rfl⟩
    rw [← hLK] at hO hlk hSA
    unfold OwnM at hO
    rw [hlk] at hO
    have HLKL := Lib.hid hlk; have HLKE := Lib.hid hLK; have HSA := Lib.hid hSA
    clear hLK hlk hSA
    have HQ := Lib.hid hQ; have HO := Lib.hid hO; have HX := Lib.hid hx; clear hQ hO hx
    have c5 := (HB1.out.ext HX.out).cell 5
    simp only [List.getElem?_cons_succ, List.getElem?_cons_zero] at c5
    by_cases hlt : k < nK
    · have hkl : k < s.ss.length := by rw [HLK.out]; exact hlt
      obtain ⟨bk, ok, hAK, hsm⟩ := (HKS.out.ext (HX1.out.trans HX.out)) k hkl
      subst hAK
      obtain ⟨sm, hsmd⟩ : ∃ sm, sm = gSm s.ss k := ⟨_, rfl⟩
      rw [← hsmd] at hsm
      have HTK : Hid ((s.ss.take (k + 1)).map swSm = LK ++ [swSm sm]) := by show _ = _; rw [sw_take hkl, ← HLKE.out, hsmd]
      clear hsmd
      obtain ⟨pa, ea, pb, eb, rv, es⟩ := sm
      obtain ⟨k0, k1, k2, k3, k4, k5⟩ := hsm
      simp only at k0 k1 k2 k3 k4 k5
      have hkl0 := cell_lt k0
      have hql : w1.heap.size < wr.heap.size := HQ.out.lt
      have hwl : w.heap.size < wr.heap.size := (HB1.out.ext HX.out).lt
      have q5 := HQ.out.cell 5
      have fq5 := HQ.out.frozen 5
      simp only [List.getElem?_cons_succ, List.getElem?_cons_zero] at q5
      obtain ⟨wr0, rfl⟩ : ∃ wr0 : World, wr0 = wr := ⟨_, rfl⟩
      have HW : Hid (Ext wr0 ((wr0.alloc (.cells #[.int .i64 pa, .int .i64 ea, .int .i64 pb, .int .i64 eb, .bool rv, .int .i64 es] 53)).alloc (.cells #[.int .i64 pb, .int .i64 eb, .int .i64 pa, .int .i64 ea, .bool rv, .int .i64 es] 53))) := ((Ext.refl _).alloc _).alloc _
      have HOW := Lib.hid (own_ext HO.out HW.out)
      have HQW := Lib.hid (HQ.out.ext HW.out)
      have HNE : Hid (Value.ownBlock (.slice VA k vc) ≠ some w1.heap.size) := own_blk_ne HO.out HQ.out (by decide)
      have HN2 : Hid (∀ j u, ([.int .i64 pb, .int .i64 eb, .int .i64 pa, .int .i64 ea, .bool rv, .int .i64 es] : List Value)[j]? = some u → ((wr0.alloc (.cells #[.int .i64 pa, .int .i64 ea, .int .i64 pb, .int .i64 eb, .bool rv, .int .i64 es] 53)).alloc (.cells #[.int .i64 pb, .int .i64 eb, .int .i64 pa, .int .i64 ea, .bool rv, .int .i64 es] 53)).cell? ((⟨wr0.heap.size + 1, 0, none⟩ : Addr).add j) = some u) := World.news_of_block (cs := #[.int .i64 pb, .int .i64 eb, .int .i64 pa, .int .i64 ea, .bool rv, .int .i64 es]) (t := 53) (fr := (0, 0)) (by have := heap_alloc_new (wr0.alloc (.cells #[.int .i64 pa, .int .i64 ea, .int .i64 pb, .int .i64 eb, .bool rv, .int .i64 es] 53)) (.cells #[.int .i64 pb, .int .i64 eb, .int .i64 pa, .int .i64 ea, .bool rv, .int .i64 es] 53); simpa using this)
      have H63 : Hid (k + 1 ≤ maxLen) := by show _ ≤ _; unfold maxLen; omega
      have H64 : Hid ((k + 1) * 48 ≤ 140737488355328) := by show _ ≤ _; omega
      have HC7 : Hid (w1.heap.size ≤ ((wr0.alloc (.cells #[.int .i64 pa, .int .i64 ea, .int .i64 pb, .int .i64 eb, .bool rv, .int .i64 es] 53)).alloc (.cells #[.int .i64 pb, .int .i64 eb, .int .i64 pa, .int .i64 ea, .bool rv, .int .i64 es] 53)).heap.size) := by show _ ≤ _; simp; omega
      go_wp2_with (at_builtin; refine wpList_append_lies _ rfl (.tmp 32) (.tmp 46) 54 rfl w1.heap.size 53 i0 (.agg #[.int .i64 0, .int .i64 0, .int .i64 0, .int .i64 0, .bool false, .int .i64 0]) 6 48 Try.underlying54 hi0 hz0 hz1 hz2 rfl (by decide) (.slice VA k vc) k (smcells LK) rfl HOW.out ⟨wr0.heap.size + 1, 0, none⟩ 1 1 [.int .i64 pb, .int .i64 eb, .int .i64 pa, .int .i64 ea, .bool rv, .int .i64 es] rfl rfl HN2.out (by simp [Value.oneCell']) (by omega) H63.out H64.out HC7.out (wr0.heap.size + 1 + 1) (by simp) ?_)
      intro gg cap wn hown1 hgrow hat hltn
      have y5 := (World.cell?_of_block (a := ⟨w1.heap.size, 5, none⟩) (hgrow.block _ HQW.out.lt (Ne.symm HNE.out))).trans (HQW.out.cell 5)
      have yf := (World.frozen?_of_block (a := ⟨w1.heap.size, 5, none⟩) (hgrow.block _ HQW.out.lt (Ne.symm HNE.out))).trans (HQW.out.frozen 5)
      simp only [List.getElem?_cons_succ, List.getElem?_cons_zero] at y5
      have HFIN := Lib.hid (seam_fin (L := LK ++ [⟨pb, eb, pa, ea, rv, es⟩]) HQW.out HNE.out hgrow (by rw [List.length_append, smcells_append, HLKL.out]; exact hown1) (HX.out.trans HW.out) (fun g hg => own_ge HO.out hg))
      clear hown1 hgrow hat hltn q5 fq5 k0 k1 k2 k3 k4 k5 c5
      go_wp2_with fail
      go_roundw
      case rel =>
        refine ⟨k + 1, .slice (some ⟨gg, 0, none⟩) (k + 1) cap, by omega, by go_num, ?_⟩
        rw [HTK.out]
        exact HFIN.out
      case measure => simp [intOf]; omega
    · obtain rfl : k = nK := by omega
      obtain ⟨wq, rfl⟩ : ∃ wq : World, wq = wr := ⟨_, rfl⟩
      have HSP : Hid (SeamsAt wq VA (swAll s).ss) := by
        show SeamsAt _ _ (s.ss.map swSm)
        have e : LK = s.ss.map swSm := by rw [HLKE.out, List.take_of_length_le (by rw [HLK.out]; omega)]
        rw [← e]
        exact HSA.out
      have HXw := Lib.hid (HX1.out.trans HX.out); have HBq := Lib.hid (HB1.out.ext HX.out)
      clear HO HLKE HLKL HSA c5
      have HE := Lib.hid (swAll_E (s := s) (z := z))
      have HLN : Hid (unmE s z = 0 → (unmL (swAll s) z).length = (unmL s z).length) := swAll_L
      have HMM : Hid (unmE s z = 0 → ∀ c a b : Int, (c, a, b) ∈ unmL s z → (3 - c, a, b) ∈ unmL (swAll s) z ∧ 1 ≤ c ∧ c ≤ 2) := fun h c a b => swAll_mem h
      have HL192 : Hid (unmE s z = 0 → (unmL s z).length ≤ 192) := fun h => by
        have := unm_le (unmE_zero.1 h).2 s.ss.length (Nat.le_refl _)
        have h2 := HFW.out.K
        unfold unmL; omega
      generalize swAll s = T at H4 HSP HE HLN HMM
      obtain ⟨c0, c1, c2, c3, c4, c5, c6⟩ := blk7 HBq.out
      go_wp2_with fail
      refine (H2.out _ HXw.out HFW.out).mono ?_
      rintro e w4 ⟨v4, rfl, hv4, hv4', he4⟩
      have HX4 := Lib.hid (HXw.out.trans he4); have HQ4 := Lib.hid (HQ.out.ext he4); have HSP4 := Lib.hid (HSP.out.ext he4)
      clear c0 c1 c2 c3 c4 c5 c6 he4
      have hf4 : ∃ A n c, v4 = .slice A n c := by
        rcases Classical.em (unmE s z = 0) with h | h
        · obtain ⟨A, c, e, _⟩ := OwnK.slice' (n := _) (hv4 h) rfl; exact ⟨_, _, _, e⟩
        · exact ⟨_, _, _, hv4' h⟩
      obtain ⟨A4, n4, c4', hvf⟩ := hf4
      subst hvf
      have HV4 := Lib.hid hv4; clear hv4 hv4'
      obtain ⟨q0, q1, q2, q3, q4, q5, q6⟩ := blk7 HQ4.out
      go_wp2_with fail
      refine (H4.out VA vc _ HX4.out HSP4.out HFW.out).mono ?_
      rintro e w5 ⟨v5, rfl, hv5, hv5', he5⟩
      have HX5 := Lib.hid (HX4.out.trans he5); have HE5 := Lib.hid he5
      clear q0 q1 q2 q3 q4 q5 q6 he5
      have hf5 : ∃ A n c, v5 = .slice A n c := by
        rcases Classical.em (unmE T z = 0) with h | h
        · obtain ⟨A, c, e, _⟩ := OwnK.slice' (n := _) (hv5 h) rfl; exact ⟨_, _, _, e⟩
        · exact ⟨_, _, _, hv5' h⟩
      obtain ⟨A5, n5, c5', hvf⟩ := hf5
      subst hvf
      have HV5 := Lib.hid hv5; clear hv5 hv5'
      by_cases hz : unmE s z = 0
      rotate_left
      · have hz' : unmE T z ≠ 0 := fun h => hz (HE.out.1 h)
        have hzb : (unmE s z != 0) = true := by simp [hz]
        have hzb' : (unmE T z != 0) = true := by simp [hz']
        clear HV4 HV5 HE HLN HMM HL192 hz hz'
        generalize unmE s z = E at hzb
        generalize unmE T z = F at hzb'
        go_wp2_with fail
        refine (awake_any _).mono ?_
        rintro e w6 ⟨rfl, he6⟩
        go_wp2_with fail
        go_ret
        exact ⟨rfl, HX5.out.trans he6⟩
      have hz' := HE.out.2 hz
      have hO4 := HV4.out hz; have hO5 := HV5.out hz'
      have hln := HLN.out hz; have hmm := HMM.out hz; have h192 := HL192.out hz
      rw [hz, hz']
      clear HV4 HV5 HE HLN HMM HL192 hz hz'
      generalize unmL s z = L at hO4 hln hmm h192
      generalize unmL T z = R at hO5 hln hmm
      obtain ⟨A4', c4'', hvv, hI4⟩ := OwnK.slice' (n := L.length) hO4 rfl
      injection hvv with e1 e2 e3
      have e1' := e1.symm; have e2' := e2.symm; have e3' := e3.symm
      clear e1 e2 e3
      obtain ⟨A5', c5'', hvv, hI5⟩ := OwnK.slice' (n := L.length) hO5 hln
      injection hvv with g1 g2 g3
      rw [e1'] at hI4
      rw [← g1] at hI5
      have hn5 : n4 = n5 := by rw [g2, ← e2']
      subst hn5
      have HLL : Hid (L.length = n4) := e2'
      have HRL : Hid (R.length = n4) := hln.trans e2'
      have HI4 := Lib.hid (hI4.ext HE5.out); have HI5 := Lib.hid hI5; have HMM := Lib.hid hmm
      rw [e2'] at h192
      clear e1' e2' e3' g1 g2 g3 hI4 hI5 hmm hln hO4 hO5
      go_wp2_with fail
      go_loopw [12] (fun i wr => ∃ j : Nat, j ≤ n4 ∧ i = .int .i64 j ∧ Ext w5 wr) (fun i _ => n4 - (intOf i).toNat)
      case atStart => exact ⟨0, Nat.zero_le _, rfl, Ext.refl _⟩
      case round =>
        obtain ⟨wt, rfl⟩ : ∃ wt : World, wt = wr := ⟨_, rfl⟩
        obtain ⟨j, hj, rfl, hxt⟩ := hrel
        have HXt := Lib.hid hxt; clear hxt
        by_cases hjl : j < n4
        rotate_left
        · obtain rfl : j = n4 := by omega
          have s1 : ((j : Int) == j) = true := by simp
          go_wp2_with fail
          refine (awake_any _).mono ?_
          rintro e w6 ⟨rfl, he6⟩
          go_wp2_with fail
          go_ret
          exact ⟨rfl, (HX5.out.trans HXt.out).trans he6⟩
        have hjL : j < L.length := by rw [HLL.out]; exact hjl
        obtain ⟨b4, o4, hA4, d0, d1, d2⟩ := (HI4.out.ext HXt.out) j hjL
        subst hA4
        have hmem := List.getElem_mem hjL
        rw [← gK_eq hjL] at hmem
        obtain ⟨g, hg⟩ : ∃ g, g = gK L j := ⟨_, rfl⟩
        rw [← hg] at d0 d1 d2 hmem
        clear hg
        obtain ⟨g0, g1, g2⟩ := g
        obtain ⟨hm1, hm2, hm3⟩ := HMM.out g0 g1 g2 hmem
        have hwr : IntKind.i64.wrap (3 - g0) = 3 - g0 := IntWalk.i64_in _ (by omega)
        have HMB : Hid (memB R (3 - g0, g1, g2) = true) := decide_eq_true hm1
        simp only at d0 d1 d2
        have hjj : (j : Int) < n4 := by omega
        have hjj0 : (0 : Int) ≤ j := by omega
        have HHC : Hid (∀ W, Ext wt W → Calls Try.prog 23 #[.slice A5 n4 c5', .agg #[.int .i64 (3 - g0), .int .i64 g1, .int .i64 g2]] W fun e w' => e = .returned (.bool true) ∧ Ext W w') := fun W h => by
          rw [← HMB.out]; exact lhas_any A5 n4 c5' R (3 - g0) g1 g2 W (HI5.out.ext (HXt.out.trans h)) HRL.out (by omega)
        clear hm1 hm2 hm3 hmem
        go_upto_region 17 with fail
        have f0 := fun t : After wt => After.cell d0 t
        have f1 := fun t : After wt => After.cell d1 t
        have f2 := fun t : After wt => After.cell d2 t
        clear d0 d1 d2
        refine region_ext (by kernel_rfl) (by kernel_rfl) ?_
        repeat (go_big_quiet_step ((go_at_call 23; exact after_call (HHC.out _ (After.ext _)))))
        refine wpQuiet_nil ?_
        rintro w6 ⟨⟨_, he⟩, rfl⟩
        clear f0 f1 f2 hwr
        go_wp2_with fail
        go_roundw
        case rel => exact ⟨j + 1, by omega, by go_num, HXt.out.trans he⟩
        case measure => simp [intOf]; omega
end Go.Proofs.Ytliijigdbpmpaaa
