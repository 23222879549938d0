/- GradeComposes returns true -/
import Derived.Test.YtpmfikkcidgoeaaCompP
import Derived.Test.YtpmfikkcidgoeaaSame2
import Derived.Deep.RegionHeld3
namespace Go.Proofs.Ytpmfikkcidgoeaa
open Go.RowKit
/- a piece in new memory, as it is read -/
def RetQ (W : World) (nm : ByteArray) (gr : Int) (mt : Bool) (nE nN : Nat) (E : List Edge) (C : List Spot) (I : List Int) (N : List Spot) (e : Ending) (w' : World) : Prop :=
  ∃ AE cE AN cN AC cC AW cW, e = .returned (.agg #[.string nm, .slice AE nE cE, .int .i64 gr, .slice AN nN cN, .slice AC nE cC, .slice AW nE cW, .bool mt]) ∧ EdgesAt w' AE E ∧ SpotsAt w' AN N ∧ SpotsAt w' AC C ∧ IntsAt w' AW I ∧ plainA AW ∧ plainA AN ∧ Ext W w'
set_option maxRecDepth 100000 in
theorem turned_q (nm : ByteArray) (AE AN AC AW : Option Addr) (nE cE nN cN cC cW : Nat) (gr : Int) (mt f : Bool) (q : Int) (es : List Edge) (cs : List Spot) (ws : List Int) (ns : List Spot) (E : List Edge) (C : List Spot) (I : List Int) (N : List Spot) (w : World)
    (hE : EdgesAt w AE es) (hlE : es.length = nE) (hnE : nE ≤ 1000) (hlen : ∀ k, k < nE → (gE es k).2.length ≤ 1000) (hC : SpotsAt w AC cs) (hlC : cs.length = nE)
    (hW : IntsAt w AW ws) (hlW : ws.length = nE) (hN : SpotsAt w AN ns) (hlN : ns.length = nN) (hnN : nN ≤ 1000) (hpW : plainA AW) (hpN : plainA AN)
    (eE : turnE f q es = E) (eC : turnC f q nE cs = C) (eI : turnW f nE ws = I) (eN : turnNs f es ns = N) :
    Calls Try.prog 12 #[.agg #[.string nm, .slice AE nE cE, .int .i64 gr, .slice AN nN cN, .slice AC nE cC, .slice AW nE cW, .bool mt], TV f q] w (RetQ w nm gr mt nE nN E C I N) := by
  refine (turned_any nm AE AN AC AW nE cE nN cN nE cC nE cW gr mt f q es cs ws ns w hE hlE hnE hlen hC hlC hnE hW hlW hnE hN hlN hnN hpW hpN).mono ?_
  rintro e w3 ⟨uE, uC, uW, uN, rfl, hE3, hC3, hW3, hN3, hx3⟩
  rw [eE] at hE3
  rw [eC] at hC3
  rw [eI] at hW3
  rw [eN] at hN3
  obtain ⟨BE, dE, rfl, h1, _, _⟩ := hE3.slice' (n := nE) (by rw [← eE, turnE_len, hlE])
  obtain ⟨BC, dC, rfl, h2, _⟩ := hC3.slice' (n := nE) (by rw [← eC, turnC_len, hlC])
  obtain ⟨BW, dW, rfl, h3, h5⟩ := OwnI.slice' (n := nE) hW3 (by rw [← eI, turnW_len, hlW])
  obtain ⟨BN, dN, rfl, h4, h6⟩ := hN3.slice' (n := nN) (by rw [← eN, turnNs_len, hlN])
  exact ⟨BE, dE, BN, dN, BC, dC, BW, dW, rfl, h1, h4, h2, h3, h5, h6, hx3⟩
set_option maxRecDepth 100000 in
set_option maxHeartbeats 12800000 in
theorem composes_any (nm : ByteArray) (AE AN AC AW : Option Addr) (nE cE nN cN nC cC nW cW : Nat) (gr : Int) (fa : Bool) (qa : Int) (fb : Bool) (qb : Int) (mt : Bool) (es : List Edge) (cs : List Spot) (ws : List Int) (ns : List Spot) (w : World) (hp : PAt w AE AN AC AW nE cE nN cN nC cC nW cW es cs ws ns) (hwE : WfE es) (hwC : WfL cs) :
    Calls Try.prog 9 #[.agg #[.string nm, .slice AE nE cE, .int .i64 gr, .slice AN nN cN, .slice AC nC cC, .slice AW nW cW, .bool mt], TV fa qa, TV fb qb] w fun e w' => e = .returned (.bool true) ∧ Ext w w' := by
  have HP := Lib.hid hp; clear hp
  have HWE := Lib.hid hwE; have HWC := Lib.hid hwC; clear hwE hwC
  go_enter Try.func9, Try.ntmps9
  go_wp2_with fail
  refine (light_any nm AE AN AC AW nE cE nN cN nC cC nW cW gr mt es _ 40 (by omega) (HP.out.e.ext ((((Ext.refl _).alloc _).alloc _).alloc _)) HP.out.le).mono ?_
  rintro e w1 ⟨b, rfl, he1, hb⟩
  have HB1 : Hid (Blk 27 w1 w.heap.size [.string nm, .slice AE nE cE, .int .i64 gr, .slice AN nN cN, .slice AC nC cC, .slice AW nW cW, .bool mt]) := (((Blk.new' rfl).ext ((Ext.refl _).alloc _)).ext ((Ext.refl _).alloc _)).ext he1
  have HA1 : Hid (Blk 29 w1 (w.heap.size + 1) [.bool fa, .int .i64 qa]) := ((Blk.new' (by simp)).ext ((Ext.refl _).alloc _)).ext he1
  have HU1 : Hid (Blk 29 w1 (w.heap.size + 1 + 1) [.bool fb, .int .i64 qb]) := (Blk.new' (by simp)).ext he1
  have HX1 := Lib.hid (((((Ext.refl w).alloc _).alloc _).alloc _).trans he1)
  clear he1
  cases b
  · clear hb
    go_wp2_with fail
    refine (example_any _).mono ?_
    rintro e w2 ⟨rfl, he2⟩
    go_wp2_with fail
    go_ret
    exact ⟨rfl, HX1.out.trans he2⟩
  obtain ⟨hl1, hl2, hl3, hl4, hl5⟩ := hb rfl
  rw [HP.out.le] at hl1
  have HL5 := Lib.hid hl5
  clear hb hl5
  obtain ⟨_, p1, _, p3, p4, p5, _⟩ := blk7 HB1.out
  by_cases hnc : nC = nE
  rotate_left
  · have hnb : ((nC : Int) != nE) = true := by simp; omega
    go_wp2_with fail
    refine (example_any _).mono ?_
    rintro e w2 ⟨rfl, he2⟩
    go_wp2_with fail
    go_ret
    exact ⟨rfl, HX1.out.trans he2⟩
  by_cases hnw : nW = nE
  rotate_left
  · subst hnc
    have hnb : ((nW : Int) != nC) = true := by simp; omega
    go_wp2_with fail
    refine (example_any _).mono ?_
    rintro e w2 ⟨rfl, he2⟩
    go_wp2_with fail
    go_ret
    exact ⟨rfl, HX1.out.trans he2⟩
  have hnc' := hnc.symm; have hnw' := hnw.symm
  clear hnc hnw
  subst hnc'
  subst hnw'
  have HP1 := Lib.hid (HP.out.ext HX1.out)
  go_wp2_with fail
  refine (ocheck_any AE nE cE es _ HP1.out.e HP.out.le HP.out.ce HP.out.ce').mono ?_
  rintro e w2 ⟨rfl, he2⟩
  have HX2 := Lib.hid (HX1.out.trans he2)
  have HB2 := Lib.hid (HB1.out.ext he2); have HA2 := Lib.hid (HA1.out.ext he2); have HU2 := Lib.hid (HU1.out.ext he2)
  clear he2 p1 p3 p4 p5
  by_cases hz : ocheck es = 0
  rotate_left
  · have hzb : (ocheck es != 0) = true := by simp [hz]
    clear hz
    go_wp2_with fail
    refine (example_any _).mono ?_
    rintro e w3 ⟨rfl, he3⟩
    go_wp2_with fail
    go_ret
    exact ⟨rfl, HX2.out.trans he3⟩
  rw [hz]
  have HOC := Lib.hid hz; clear hz
  have p3 := HB2.out.cell 3
  simp only [List.getElem?_cons_succ, List.getElem?_cons_zero] at p3
  go_wp2_with fail
  clear p3
  go_loopw [43] (fun i wr => ∃ k : Nat, k ≤ nN ∧ i = .int .i64 k ∧ (∀ j, j < k → 0 ≤ (gS ns j).1 ∧ (gS ns j).1 < es.length ∧ 0 ≤ (gS ns j).2 ∧ (gS ns j).2 ≤ lengthN (gE es (gS ns j).1.toNat).2) ∧ Ext w2 wr) (fun i _ => nN - (intOf i).toNat)
  case atStart => exact ⟨0, Nat.zero_le _, rfl, fun j hj => absurd hj (Nat.not_lt_zero _), Ext.refl _⟩
  case round =>
    obtain ⟨k, hk, rfl, hall, hx⟩ := hrel
    have HALL := Lib.hid hall; have HX := Lib.hid hx; clear hall hx
    have HXw := Lib.hid (HX2.out.trans HX.out)
    by_cases hlt : k < nN
    · obtain ⟨b, off, rfl, i0, i1⟩ := (HP.out.n.ext HXw.out).g (k := k) (by rw [HP.out.ln]; exact hlt)
      obtain ⟨a1, ha1⟩ : ∃ a1, a1 = (gS ns k).1 := ⟨_, rfl⟩
      obtain ⟨a2, ha2⟩ : ∃ a2, a2 = (gS ns k).2 := ⟨_, rfl⟩
      rw [← ha1] at i0
      rw [← ha2] at i1
      have HA1' := Lib.hid ha1; have HA2' := Lib.hid ha2; clear ha1 ha2
      have p1 := (HB2.out.ext HX.out).cell 1
      simp only [List.getElem?_cons_succ, List.getElem?_cons_zero] at p1
      have hpl : w.heap.size < wr.heap.size := cell_lt p1
      by_cases h0 : a1 < 0
      · go_wp2_with fail
        refine (example_any _).mono ?_
        rintro e w3 ⟨rfl, he3⟩
        go_wp2_with fail
        go_ret
        exact ⟨rfl, (HXw.out.alloc _).trans he3⟩
      by_cases h1 : (nE : Int) ≤ a1
      · go_wp2_with fail
        refine (example_any _).mono ?_
        rintro e w3 ⟨rfl, he3⟩
        go_wp2_with fail
        go_ret
        exact ⟨rfl, (HXw.out.alloc _).trans he3⟩
      obtain ⟨n1, hn1⟩ : ∃ n1 : Nat, a1 = n1 := ⟨a1.toNat, by omega⟩
      subst hn1
      have hn1 : n1 < nE := by omega
      obtain ⟨b2, off2, L, cL, rfl, hc0, hc1, hS, hcL, hcL'⟩ := (HP.out.e.ext HXw.out).g (k := n1) (by rw [HP.out.le]; exact hn1)
      have hlz : lcheck (gE es n1).2 = 0 := ocheck_line HOC.out (by rw [HP.out.le]; exact hn1)
      obtain ⟨ln, hln⟩ : ∃ ln, ln = (gE es n1).2 := ⟨_, rfl⟩
      rw [← hln] at hc1 hS hlz
      have HLN := Lib.hid hln; have HS := Lib.hid hS; have HLZ := Lib.hid hlz
      have hb2 : b2 < wr.heap.size := cell_lt hc0
      clear hln hS hlz hcL hcL' hc0
      go_wp2_with fail
      refine (length_any L ln.length cL ln _ (HS.out.ext ((Ext.refl _).alloc _)) rfl).mono ?_
      rintro e w3 ⟨rfl, he3⟩
      rw [HLZ.out]
      have v0 : w3.cell? ⟨wr.heap.size, 0, none⟩ = some (.int .i64 (n1 : Int)) := he3.cell (by simp [go_sem])
      have v1 : w3.cell? ⟨wr.heap.size, 1, none⟩ = some (.int .i64 a2) := he3.cell (by simp [go_sem])
      have HX3 := Lib.hid (((Ext.refl wr).alloc _).trans he3)
      obtain ⟨LL, hLL⟩ : ∃ LL, LL = lengthN ln := ⟨_, rfl⟩
      rw [← hLL]
      have HLL := Lib.hid hLL
      clear hLL he3 i0 i1 hc1 p1
      by_cases h2 : a2 < 0
      · go_wp2_with fail
        refine (example_any _).mono ?_
        rintro e w4 ⟨rfl, he4⟩
        go_wp2_with fail
        go_ret
        exact ⟨rfl, (HXw.out.trans HX3.out).trans he4⟩
      by_cases h3 : (LL : Int) < a2
      · go_wp2_with fail
        refine (example_any _).mono ?_
        rintro e w4 ⟨rfl, he4⟩
        go_wp2_with fail
        go_ret
        exact ⟨rfl, (HXw.out.trans HX3.out).trans he4⟩
      go_wp2_with fail
      go_roundw
      case rel =>
        refine ⟨k + 1, by omega, by go_num, fun j hj => ?_, HX.out.trans HX3.out⟩
        rcases Nat.lt_succ_iff_lt_or_eq.1 hj with h | h
        · exact HALL.out j h
        · subst h
          rw [← HA1'.out, ← HA2'.out, HP.out.le, Int.toNat_natCast, ← HLN.out, ← HLL.out]
          omega
      case measure => simp [intOf]; omega
    · obtain rfl : k = nN := by omega
      have hNO : NOk es ns := fun j hj => HALL.out j (by rw [HP.out.ln] at hj; exact hj)
      have HNO := Lib.hid hNO; clear hNO
      have HBr := Lib.hid (HB2.out.ext HX.out); have HAr := Lib.hid (HA2.out.ext HX.out); have HUr := Lib.hid (HU2.out.ext HX.out)
      have HPr := Lib.hid (HP.out.ext HXw.out)
      have HLn : Hid (∀ q, q < nE → (gE es q).2.length ≤ 1000) := fun q hq => Nat.le_trans (HL5.out q (by rw [HP.out.le]; exact hq)).1 (by decide)
      obtain ⟨p0, p1, p2, p3, p4, p5, p6⟩ := blk7 HBr.out
      obtain ⟨a0, a1⟩ := blk2 HAr.out
      go_wp2_with fail
      refine (turned_q nm AE AN AC AW nE cE k cN cC cW gr mt fa qa es cs ws ns (turnE fa qa es) (turnC fa qa nE cs) (turnW fa nE ws) (turnNs fa es ns) _ HPr.out.e HP.out.le (by omega) HLn.out HPr.out.c HP.out.lc HPr.out.i HP.out.li HPr.out.n HP.out.ln (by omega) HP.out.pi HP.out.pn rfl rfl rfl rfl).mono ?_
      rintro e wq ⟨QE, dE, QN, dN, QC, dC, QW, dW, rfl, hqE, hqN, hqC, hqW, hqp, hqn, hxq⟩
      have HqE := Lib.hid hqE; have HqN := Lib.hid hqN; have HqC := Lib.hid hqC; have HqW := Lib.hid hqW; have Hqp := Lib.hid hqp; have Hqn := Lib.hid hqn; have HXq := Lib.hid hxq
      clear hqE hqN hqC hqW hqp hqn hxq p0 p1 p2 p3 p4 p5 p6 a0 a1
      go_wp2_with fail
      refine wp_at fun W0 hW0 => ?_
      have hxW : Ext wq W0 := by rw [hW0]; exact (Ext.refl _).alloc _
      have HQW : Hid (Blk 27 W0 wq.heap.size [.string nm, .slice QE nE dE, .int .i64 gr, .slice QN k dN, .slice QC nE dC, .slice QW nE dW, .bool mt]) := by show Blk _ _ _ _; rw [hW0]; exact Blk.new' rfl
      have HXrW := Lib.hid (HXq.out.trans hxW)
      have HXW := Lib.hid hxW
      clear hW0 hxW
      have keep : ∀ W1 : World, Ext W0 W1 → (Ext W0 W1 ∧ W1.cell? ⟨w.heap.size, 0, none⟩ = some (.string nm) ∧ W1.cell? ⟨w.heap.size, 1, none⟩ = some (.slice AE nE cE) ∧ W1.cell? ⟨w.heap.size, 2, none⟩ = some (.int .i64 gr) ∧ W1.cell? ⟨w.heap.size, 3, none⟩ = some (.slice AN k cN) ∧ W1.cell? ⟨w.heap.size, 4, none⟩ = some (.slice AC nE cC) ∧ W1.cell? ⟨w.heap.size, 5, none⟩ = some (.slice AW nE cW) ∧ W1.cell? ⟨w.heap.size, 6, none⟩ = some (.bool mt) ∧ W1.cell? ⟨w.heap.size + 1, 0, none⟩ = some (.bool fa) ∧ W1.cell? ⟨w.heap.size + 1, 1, none⟩ = some (.int .i64 qa) ∧ W1.cell? ⟨w.heap.size + 1 + 1, 0, none⟩ = some (.bool fb) ∧ W1.cell? ⟨w.heap.size + 1 + 1, 1, none⟩ = some (.int .i64 qb) ∧ W1.cell? ⟨wq.heap.size, 0, none⟩ = some (.string nm) ∧ W1.cell? ⟨wq.heap.size, 1, none⟩ = some (.slice QE nE dE) ∧ W1.cell? ⟨wq.heap.size, 2, none⟩ = some (.int .i64 gr) ∧ W1.cell? ⟨wq.heap.size, 3, none⟩ = some (.slice QN k dN) ∧ W1.cell? ⟨wq.heap.size, 4, none⟩ = some (.slice QC nE dC) ∧ W1.cell? ⟨wq.heap.size, 5, none⟩ = some (.slice QW nE dW) ∧ W1.cell? ⟨wq.heap.size, 6, none⟩ = some (.bool mt)) := fun W1 hx => by
        obtain ⟨g0, g1, g2, g3, g4, g5, g6⟩ := blk7 ((HBr.out.ext HXrW.out).ext hx)
        obtain ⟨f0, f1⟩ := blk2 ((HAr.out.ext HXrW.out).ext hx)
        obtain ⟨e0, e1⟩ := blk2 ((HUr.out.ext HXrW.out).ext hx)
        obtain ⟨k0, k1, k2, k3, k4, k5, k6⟩ := blk7 (HQW.out.ext hx)
        exact ⟨hx, g0, g1, g2, g3, g4, g5, g6, f0, f1, e0, e1, k0, k1, k2, k3, k4, k5, k6⟩
      have KEEP := Lib.hid keep
      have keept : ∀ W W1 : World, (Ext W0 W ∧ W.cell? ⟨w.heap.size, 0, none⟩ = some (.string nm) ∧ W.cell? ⟨w.heap.size, 1, none⟩ = some (.slice AE nE cE) ∧ W.cell? ⟨w.heap.size, 2, none⟩ = some (.int .i64 gr) ∧ W.cell? ⟨w.heap.size, 3, none⟩ = some (.slice AN k cN) ∧ W.cell? ⟨w.heap.size, 4, none⟩ = some (.slice AC nE cC) ∧ W.cell? ⟨w.heap.size, 5, none⟩ = some (.slice AW nE cW) ∧ W.cell? ⟨w.heap.size, 6, none⟩ = some (.bool mt) ∧ W.cell? ⟨w.heap.size + 1, 0, none⟩ = some (.bool fa) ∧ W.cell? ⟨w.heap.size + 1, 1, none⟩ = some (.int .i64 qa) ∧ W.cell? ⟨w.heap.size + 1 + 1, 0, none⟩ = some (.bool fb) ∧ W.cell? ⟨w.heap.size + 1 + 1, 1, none⟩ = some (.int .i64 qb) ∧ W.cell? ⟨wq.heap.size, 0, none⟩ = some (.string nm) ∧ W.cell? ⟨wq.heap.size, 1, none⟩ = some (.slice QE nE dE) ∧ W.cell? ⟨wq.heap.size, 2, none⟩ = some (.int .i64 gr) ∧ W.cell? ⟨wq.heap.size, 3, none⟩ = some (.slice QN k dN) ∧ W.cell? ⟨wq.heap.size, 4, none⟩ = some (.slice QC nE dC) ∧ W.cell? ⟨wq.heap.size, 5, none⟩ = some (.slice QW nE dW) ∧ W.cell? ⟨wq.heap.size, 6, none⟩ = some (.bool mt)) → Ext W W1 → (Ext W0 W1 ∧ W1.cell? ⟨w.heap.size, 0, none⟩ = some (.string nm) ∧ W1.cell? ⟨w.heap.size, 1, none⟩ = some (.slice AE nE cE) ∧ W1.cell? ⟨w.heap.size, 2, none⟩ = some (.int .i64 gr) ∧ W1.cell? ⟨w.heap.size, 3, none⟩ = some (.slice AN k cN) ∧ W1.cell? ⟨w.heap.size, 4, none⟩ = some (.slice AC nE cC) ∧ W1.cell? ⟨w.heap.size, 5, none⟩ = some (.slice AW nE cW) ∧ W1.cell? ⟨w.heap.size, 6, none⟩ = some (.bool mt) ∧ W1.cell? ⟨w.heap.size + 1, 0, none⟩ = some (.bool fa) ∧ W1.cell? ⟨w.heap.size + 1, 1, none⟩ = some (.int .i64 qa) ∧ W1.cell? ⟨w.heap.size + 1 + 1, 0, none⟩ = some (.bool fb) ∧ W1.cell? ⟨w.heap.size + 1 + 1, 1, none⟩ = some (.int .i64 qb) ∧ W1.cell? ⟨wq.heap.size, 0, none⟩ = some (.string nm) ∧ W1.cell? ⟨wq.heap.size, 1, none⟩ = some (.slice QE nE dE) ∧ W1.cell? ⟨wq.heap.size, 2, none⟩ = some (.int .i64 gr) ∧ W1.cell? ⟨wq.heap.size, 3, none⟩ = some (.slice QN k dN) ∧ W1.cell? ⟨wq.heap.size, 4, none⟩ = some (.slice QC nE dC) ∧ W1.cell? ⟨wq.heap.size, 5, none⟩ = some (.slice QW nE dW) ∧ W1.cell? ⟨wq.heap.size, 6, none⟩ = some (.bool mt)) := fun W W1 h hx => keep W1 (h.1.trans hx)
      have KEEPT := Lib.hid keept
      have getw : ∀ W : World, (Ext W0 W ∧ W.cell? ⟨w.heap.size, 0, none⟩ = some (.string nm) ∧ W.cell? ⟨w.heap.size, 1, none⟩ = some (.slice AE nE cE) ∧ W.cell? ⟨w.heap.size, 2, none⟩ = some (.int .i64 gr) ∧ W.cell? ⟨w.heap.size, 3, none⟩ = some (.slice AN k cN) ∧ W.cell? ⟨w.heap.size, 4, none⟩ = some (.slice AC nE cC) ∧ W.cell? ⟨w.heap.size, 5, none⟩ = some (.slice AW nE cW) ∧ W.cell? ⟨w.heap.size, 6, none⟩ = some (.bool mt) ∧ W.cell? ⟨w.heap.size + 1, 0, none⟩ = some (.bool fa) ∧ W.cell? ⟨w.heap.size + 1, 1, none⟩ = some (.int .i64 qa) ∧ W.cell? ⟨w.heap.size + 1 + 1, 0, none⟩ = some (.bool fb) ∧ W.cell? ⟨w.heap.size + 1 + 1, 1, none⟩ = some (.int .i64 qb) ∧ W.cell? ⟨wq.heap.size, 0, none⟩ = some (.string nm) ∧ W.cell? ⟨wq.heap.size, 1, none⟩ = some (.slice QE nE dE) ∧ W.cell? ⟨wq.heap.size, 2, none⟩ = some (.int .i64 gr) ∧ W.cell? ⟨wq.heap.size, 3, none⟩ = some (.slice QN k dN) ∧ W.cell? ⟨wq.heap.size, 4, none⟩ = some (.slice QC nE dC) ∧ W.cell? ⟨wq.heap.size, 5, none⟩ = some (.slice QW nE dW) ∧ W.cell? ⟨wq.heap.size, 6, none⟩ = some (.bool mt)) → Ext W0 W := fun W h => h.1
      have GETW := Lib.hid getw
      clear keep keept getw
      have hlc : ∀ i, i < es.length → lcheck (gE es i).2 = 0 := fun i hi => ocheck_line HOC.out hi
      have HLq : Hid (∀ q, q < nE → (gE (turnE fa qa es) q).2.length ≤ 1000) := fun q hq => by
        rw [turnE_m (by rw [HP.out.le]; exact hq)]
        exact HLn.out _ (by rw [HP.out.le]; exact turnI_lt hq)
      have HT1 : Hid (∀ W : World, Ext W0 W → Calls Try.prog 12 #[.agg #[.string nm, .slice QE nE dE, .int .i64 gr, .slice QN k dN, .slice QC nE dC, .slice QW nE dW, .bool mt], TV fb qb] W (RetQ W nm gr mt nE k (turnE (fa != fb) (compQ fb qa qb) es) (turnC (fa != fb) (compQ fb qa qb) nE cs) (turnW (fa != fb) nE ws) (turnNs (fa != fb) es ns))) := fun W hx =>
        turned_q nm QE QN QC QW nE dE k dN dC dW gr mt fb qb (turnE fa qa es) (turnC fa qa nE cs) (turnW fa nE ws) (turnNs fa es ns) _ _ _ _ W ((HqE.out.ext HXW.out).ext hx) (by rw [turnE_len, HP.out.le]) (by omega) HLq.out ((HqC.out.ext HXW.out).ext hx) (by rw [turnC_len, HP.out.lc]) ((HqW.out.ext HXW.out).ext hx) (by rw [turnW_len, HP.out.li]) ((HqN.out.ext HXW.out).ext hx) (by rw [turnNs_len, HP.out.ln]) (by omega) Hqp.out Hqn.out
          (turnE_comp fa fb qa qb HWE.out) (turnC_comp fa fb qa qb HP.out.lc HWC.out) (turnW_comp fa fb HP.out.li) (turnNs_comp fa fb qa hlc HNO.out)
      have HT2 : Hid (∀ W : World, Ext W0 W → Calls Try.prog 12 #[.agg #[.string nm, .slice AE nE cE, .int .i64 gr, .slice AN k cN, .slice AC nE cC, .slice AW nE cW, .bool mt], TV (fa != fb) (compQ fb qa qb)] W (RetQ W nm gr mt nE k (turnE (fa != fb) (compQ fb qa qb) es) (turnC (fa != fb) (compQ fb qa qb) nE cs) (turnW (fa != fb) nE ws) (turnNs (fa != fb) es ns))) := fun W hx =>
        have hy := HXrW.out.trans hx
        turned_q nm AE AN AC AW nE cE k cN cC cW gr mt (fa != fb) (compQ fb qa qb) es cs ws ns _ _ _ _ W (HPr.out.e.ext hy) HP.out.le (by omega) HLn.out (HPr.out.c.ext hy) HP.out.lc (HPr.out.i.ext hy) HP.out.li (HPr.out.n.ext hy) HP.out.ln (by omega) HP.out.pi HP.out.pn rfl rfl rfl rfl
      have HT3 : Hid (∀ W : World, Ext W0 W → Calls Try.prog 12 #[.agg #[.string nm, .slice QE nE dE, .int .i64 gr, .slice QN k dN, .slice QC nE dC, .slice QW nE dW, .bool mt], TV fa (invQ fa qa)] W (RetQ W nm gr mt nE k es cs ws ns)) := fun W hx =>
        turned_q nm QE QN QC QW nE dE k dN dC dW gr mt fa (invQ fa qa) (turnE fa qa es) (turnC fa qa nE cs) (turnW fa nE ws) (turnNs fa es ns) _ _ _ _ W ((HqE.out.ext HXW.out).ext hx) (by rw [turnE_len, HP.out.le]) (by omega) HLq.out ((HqC.out.ext HXW.out).ext hx) (by rw [turnC_len, HP.out.lc]) ((HqW.out.ext HXW.out).ext hx) (by rw [turnW_len, HP.out.li]) ((HqN.out.ext HXW.out).ext hx) (by rw [turnNs_len, HP.out.ln]) (by omega) Hqp.out Hqn.out
          (by rw [turnE_comp fa fa qa _ HWE.out, compQ_inv, bne_self_eq_false]; exact turnE_id es) (by rw [turnC_comp fa fa qa _ HP.out.lc HWC.out, compQ_inv, bne_self_eq_false]; exact turnC_id _ cs) (by rw [turnW_comp fa fa HP.out.li, bne_self_eq_false]; rfl) (by rw [turnNs_comp fa fa qa hlc HNO.out, bne_self_eq_false]; rfl)
      clear hlc
      have hB20 : nE ≤ 1000 := by omega
      have hBk : k ≤ 1000 := by omega
      have HLE1 : Hid ((turnE (fa != fb) (compQ fb qa qb) es).length = nE) := by show _ = _; rw [turnE_len, HP.out.le]
      have HLC1 : Hid ((turnC (fa != fb) (compQ fb qa qb) nE cs).length = nE) := by show _ = _; rw [turnC_len, HP.out.lc]
      have HLW1 : Hid ((turnW (fa != fb) nE ws).length = nE) := by show _ = _; rw [turnW_len, HP.out.li]
      have HLN1 : Hid ((turnNs (fa != fb) es ns).length = k) := by show _ = _; rw [turnNs_len, HP.out.ln]
      go_region_held3 (fun W => Ext W0 W ∧ W.cell? ⟨w.heap.size, 0, none⟩ = some (.string nm) ∧ W.cell? ⟨w.heap.size, 1, none⟩ = some (.slice AE nE cE) ∧ W.cell? ⟨w.heap.size, 2, none⟩ = some (.int .i64 gr) ∧ W.cell? ⟨w.heap.size, 3, none⟩ = some (.slice AN k cN) ∧ W.cell? ⟨w.heap.size, 4, none⟩ = some (.slice AC nE cC) ∧ W.cell? ⟨w.heap.size, 5, none⟩ = some (.slice AW nE cW) ∧ W.cell? ⟨w.heap.size, 6, none⟩ = some (.bool mt) ∧ W.cell? ⟨w.heap.size + 1, 0, none⟩ = some (.bool fa) ∧ W.cell? ⟨w.heap.size + 1, 1, none⟩ = some (.int .i64 qa) ∧ W.cell? ⟨w.heap.size + 1 + 1, 0, none⟩ = some (.bool fb) ∧ W.cell? ⟨w.heap.size + 1 + 1, 1, none⟩ = some (.int .i64 qb) ∧ W.cell? ⟨wq.heap.size, 0, none⟩ = some (.string nm) ∧ W.cell? ⟨wq.heap.size, 1, none⟩ = some (.slice QE nE dE) ∧ W.cell? ⟨wq.heap.size, 2, none⟩ = some (.int .i64 gr) ∧ W.cell? ⟨wq.heap.size, 3, none⟩ = some (.slice QN k dN) ∧ W.cell? ⟨wq.heap.size, 4, none⟩ = some (.slice QC nE dC) ∧ W.cell? ⟨wq.heap.size, 5, none⟩ = some (.slice QW nE dW) ∧ W.cell? ⟨wq.heap.size, 6, none⟩ = some (.bool mt))
        (first | assumption | exact KEEP.out _ (Ext.drew (Ext.refl _)) | exact KEEPT.out _ _ ‹_› ‹_› | fail)
        (first
          | (go_at_call 12; have _t := hinv; refine (HT3.out _ (GETW.out _ ‹_›)).mono ?_; rintro e wt3 ⟨T3E, T3e, T3N, T3n, T3C, T3c, T3W, T3w, rfl, hT3E, hT3N, hT3C, hT3W, _, _, hxT3⟩)
          | (go_at_call 12; have _t := hcmp; refine (HT2.out _ (GETW.out _ ‹_›)).mono ?_; rintro e wt2 ⟨T2E, T2e, T2N, T2n, T2C, T2c, T2W, T2w, rfl, hT2E, hT2N, hT2C, hT2W, _, _, hxT2⟩)
          | (go_at_call 12; refine (HT1.out _ (GETW.out _ ‹_›)).mono ?_; rintro e wt1 ⟨T1E, T1e, T1N, T1n, T1C, T1c, T1W, T1w, rfl, hT1E, hT1N, hT1C, hT1W, _, _, hxT1⟩)
          | (go_at_call 24; refine (compose_any fa fb qa qb _).mono ?_; rintro e wcm ⟨rfl, hcmp⟩)
          | (go_at_call 25; refine (inverse_any fa qa _).mono ?_; rintro e wi ⟨rfl, hinv⟩)
          | (go_at_call 11; have _t := hxT3; refine (same_eq nm gr mt T3E T3N T3C T3W AE AN AC AW nE T3e k T3n nE T3c nE T3w cE cN cC cW es cs ws ns _ hT3E (HPr.out.e.ext (HXrW.out.trans (GETW.out _ ‹_›))) HP.out.le hB20 hT3C (HPr.out.c.ext (HXrW.out.trans (GETW.out _ ‹_›))) HP.out.lc hB20 hT3W (HPr.out.i.ext (HXrW.out.trans (GETW.out _ ‹_›))) HP.out.li hB20 hT3N (HPr.out.n.ext (HXrW.out.trans (GETW.out _ ‹_›))) HP.out.ln hBk).mono ?_; rintro e ws2 ⟨rfl, hxs2⟩)
          | (go_at_call 11; refine (same_eq nm gr mt T1E T1N T1C T1W T2E T2N T2C T2W nE T1e k T1n nE T1c nE T1w T2e T2n T2c T2w (turnE (fa != fb) (compQ fb qa qb) es) (turnC (fa != fb) (compQ fb qa qb) nE cs) (turnW (fa != fb) nE ws) (turnNs (fa != fb) es ns) _ (hT1E.ext (Ext.trans hcmp hxT2)) hT2E HLE1.out hB20 (hT1C.ext (Ext.trans hcmp hxT2)) hT2C HLC1.out hB20 (hT1W.ext (Ext.trans hcmp hxT2)) hT2W HLW1.out hB20 (hT1N.ext (Ext.trans hcmp hxT2)) hT2N HLN1.out hBk).mono ?_; rintro e ws1 ⟨rfl, hxs1⟩)
          | (go_at_call 14; refine (example_any _).mono ?_; rintro e wx ⟨rfl, hxx⟩)
          | fail)
      have hxf : Ext W0 wx := GETW.out _ ‹_›
      go_wp2_with fail
      go_ret
      exact ⟨rfl, (HXw.out.trans HXrW.out).trans hxf⟩
end Go.Proofs.Ytpmfikkcidgoeaa
