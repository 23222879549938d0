/- GradeSameAreas returns true -/
import Derived.Test.YtpmfikkcidgoeaaLawBk
import Derived.Test.YtpmfikkcidgoeaaAreaP
namespace Go.Proofs.Ytpmfikkcidgoeaa
open Go.RowKit
set_option maxRecDepth 100000 in
set_option maxHeartbeats 6400000 in
theorem sameAreas_any (nm : ByteArray) (AE AN AC AW : Option Addr) (nE cE nN cN nC cC nW cW : Nat) (gr : Int) (f : Bool) (q : Int) (AM : Option Addr) (nM cM : Nat) (ms : List Int) (mt : Bool) (es : List Edge) (cs : List Spot) (ws : List Int) (ns : List Spot) (w : World) (hp : PAt w AE AN AC AW nE cE nN cN nC cC nW cW es cs ws ns) (hwE : WfE es) (hwC : WfL cs) (hM : IntsAt w AM ms) (hlM : ms.length = nM) :
    Calls Try.prog 7 #[.agg #[.string nm, .slice AE nE cE, .int .i64 gr, .slice AN nN cN, .slice AC nC cC, .slice AW nW cW, .bool mt], TV f q, .slice AM nM cM] w fun e w' => e = .returned (.bool true) ∧ Ext w w' := by
  have HP := Lib.hid hp; clear hp
  have HR : Hid (areasE (turnE f q es) (turnC f q es.length cs) ms = 0 ↔ areasE es cs ms = 0) := areasE_turn f q ms hwE hwC
  have HM := Lib.hid hM; have HLM := Lib.hid hlM; clear hM hlM
  clear hwE hwC
  go_enter Try.func7, Try.ntmps7
  go_wp2_with fail
  refine (light_any nm AE AN AC AW nE cE nN cN nC cC nW cW gr mt es _ 40 (by omega) (HP.out.e.ext (((Ext.refl _).alloc _).alloc _)) HP.out.le).mono ?_
  rintro e w1 ⟨b, rfl, he1, hb⟩
  have HB1 : Hid (Blk 27 w1 w.heap.size [.string nm, .slice AE nE cE, .int .i64 gr, .slice AN nN cN, .slice AC nC cC, .slice AW nW cW, .bool mt]) := ((Blk.new' rfl).ext ((Ext.refl _).alloc _)).ext he1
  have HT1 : Hid (Blk 29 w1 (w.heap.size + 1) [.bool f, .int .i64 q]) := (Blk.new' (by simp)).ext he1
  have HX1 := Lib.hid ((((Ext.refl w).alloc _).alloc _).trans he1)
  clear he1
  cases b
  · clear hb
    go_wp2_with fail
    refine (example_any _).mono ?_
    rintro e w2 ⟨rfl, he2⟩
    go_wp2_with fail
    go_ret
    exact ⟨rfl, HX1.out.trans he2⟩
  by_cases hm4 : 4 < nM
  · clear hb
    go_wp2_with fail
    refine (example_any _).mono ?_
    rintro e w2 ⟨rfl, he2⟩
    go_wp2_with fail
    go_ret
    exact ⟨rfl, HX1.out.trans he2⟩
  obtain ⟨hl1, hl2, hl3, hl4, hl5⟩ := hb rfl
  rw [HP.out.le] at hl1
  have HL5 := Lib.hid hl5
  clear hb hl5
  have HPr := Lib.hid (HP.out.ext HX1.out)
  obtain ⟨p0, p1, p2, p3, p4, p5, p6⟩ := blk7 HB1.out
  go_wp2_with fail
  refine (areas_any nm AE AN AC AW AM nE cE nN cN nC cC nW cW nM cM gr mt es cs ms _ HPr.out.e HPr.out.le HPr.out.ce HPr.out.ce' HPr.out.c HPr.out.lc HPr.out.nc (HM.out.ext HX1.out) HLM.out (by omega)).mono ?_
  rintro e w2 ⟨v2, rfl, hv2, hv2', he2⟩
  have HX2 := Lib.hid (HX1.out.trans he2)
  have HB2 := Lib.hid (HB1.out.ext he2)
  have HT2 := Lib.hid (HT1.out.ext he2)
  have HP2 := Lib.hid (HP.out.ext HX2.out)
  have HV2 := Lib.hid hv2
  clear p0 p1 p2 p3 p4 p5 p6 hv2 he2
  have hvf : ∃ A2 n2 c2, v2 = .slice A2 n2 c2 := by
    rcases Classical.em (areasE es cs ms = 0) with h | h
    · obtain ⟨A, c, e, _⟩ := OwnI.slice (HV2.out h); exact ⟨_, _, _, e⟩
    · exact ⟨_, _, _, hv2' h⟩
  obtain ⟨A2, n2, c2, hvf⟩ := hvf
  subst hvf
  clear hv2'
  obtain ⟨p0, p1, p2, p3, p4, p5, p6⟩ := blk7 HB2.out
  have t0 := HT2.out.cell 0
  have t1 := HT2.out.cell 1
  simp only [List.getElem?_cons_succ, List.getElem?_cons_zero] at t0 t1
  go_wp2_with fail
  have HLn : Hid (∀ k, k < nE → (gE es k).2.length ≤ 1000) := fun k hk => Nat.le_trans (HL5.out k (by rw [HP.out.le]; exact hk)).1 (by decide)
  refine (turned_any nm AE AN AC AW nE cE nN cN nC cC nW cW gr mt f q es cs ws ns _ HP2.out.e HP.out.le (by omega) HLn.out HP2.out.c HP.out.lc (by omega) HP2.out.i HP.out.li (by omega) HP2.out.n HP.out.ln (by omega) HP.out.pi HP.out.pn).mono ?_
  rintro e w3 ⟨uE, uC, uW, uN, rfl, hE3, hC3, hW3, hN3, hx3⟩
  clear p0 p1 p2 p3 p4 p5 p6 t0 t1
  obtain ⟨BE, dE, hv, hE3', hdE, hdE'⟩ := hE3.slice' (n := nE) (by rw [turnE_len, HP.out.le])
  subst hv
  obtain ⟨BC, dC, hv, hC3', _⟩ := hC3.slice' (n := nC) (by rw [turnC_len, HP.out.lc])
  subst hv
  obtain ⟨BW, dW, hv, _, _⟩ := OwnI.slice' (n := (turnW f nE ws).length) hW3 rfl
  subst hv
  obtain ⟨BN, dN, hv, _, _⟩ := hN3.slice' (n := (turnNs f es ns).length) rfl
  subst hv
  have HE3 := Lib.hid hE3'; have HC3 := Lib.hid hC3'; have HX3 := Lib.hid hx3
  clear hE3 hE3' hC3 hC3' hW3 hN3 hx3
  go_wp2_with fail
  refine (areas_any nm BE BN BC BW AM nE dE _ dN nC dC _ dW nM cM gr mt (turnE f q es) (turnC f q nE cs) ms _ HE3.out (by rw [turnE_len, HP.out.le]) hdE hdE' HC3.out (by rw [turnC_len, HP.out.lc]) (by omega) ((HM.out.ext HX2.out).ext HX3.out) HLM.out (by omega)).mono ?_
  rintro e w4 ⟨v4, rfl, hv4, hv4', he4⟩
  have hR := HR.out
  rw [HP.out.le] at hR
  by_cases hz : areasE es cs ms = 0
  rotate_left
  · have hz' : areasE (turnE f q es) (turnC f q nE cs) ms ≠ 0 := fun h => hz (hR.1 h)
    have hzb : (areasE es cs ms != 0) = true := by simp [hz]
    have hzb' : (areasE (turnE f q es) (turnC f q nE cs) ms != 0) = true := by simp [hz']
    have hvn := hv4' hz'
    subst hvn
    have HX4 := Lib.hid ((HX2.out.trans HX3.out).trans he4)
    clear hv4 hv4' hz hz' hR he4
    go_wp2_with fail
    refine (example_any _).mono ?_
    rintro e w5 ⟨rfl, he5⟩
    go_wp2_with fail
    go_ret
    exact ⟨rfl, HX4.out.trans he5⟩
  have hz' := hR.2 hz
  have heq := areas_turn f q hz
  rw [HP.out.le] at heq
  have h4 := hv4 hz'
  rw [heq] at h4
  rw [hz, hz']
  obtain ⟨A4, c4, hvv, hI4, _⟩ := OwnI.slice' (n := nM) h4 (by rw [List.length_map, HLM.out])
  subst hvv
  obtain ⟨A2', c2', hvv, hI2, _⟩ := OwnI.slice' (n := nM) (HV2.out hz) (by rw [List.length_map, HLM.out])
  injection hvv with e1 e2 e3
  have e1' := e1.symm; have e2' := e2.symm; have e3' := e3.symm
  clear e1 e2 e3
  subst e1' e2' e3'
  have HI4 := Lib.hid hI4; have HI2 := Lib.hid hI2; have HX4 := Lib.hid he4
  clear hI4 hI2 hv4 hv4' hz hz' hR he4 heq h4 HV2
  go_wp2_with fail
  refine (sameInts_eq A2' A4 nM c2' c4 (ms.map (areaAt es cs)) _ (HI2.out.ext (HX3.out.trans HX4.out)) HI4.out (by rw [List.length_map, HLM.out]) (by omega)).mono ?_
  rintro e w6 ⟨rfl, he6⟩
  go_wp2_with fail
  refine (example_any _).mono ?_
  rintro e w7 ⟨rfl, he7⟩
  go_wp2_with fail
  go_ret
  exact ⟨rfl, ((((HX2.out.trans HX3.out).trans HX4.out).trans he6).trans he7)⟩
end Go.Proofs.Ytpmfikkcidgoeaa
