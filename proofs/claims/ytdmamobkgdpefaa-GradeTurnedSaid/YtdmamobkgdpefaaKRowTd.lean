/- The law GradeTurned: for every input it returns true and leaves its arguments as they were. No conditions. -/
import Derived.Test.YtdmamobkgdpefaaRows
import Derived.OpenShut
import Derived.Test.YtdmamobkgdpefaaKRefI
import Derived.Test.YtdmamobkgdpefaaKExam
import Derived.Test.YtdmamobkgdpefaaKOpen
/- garmentref21.Light, exactly -/
namespace Go.Proofs.Ytdmamobkgdpefaa
open Go.RowKit
structure LightOk (es : List Edge) (nC nN nW most : Nat) : Prop where
  a : es.length ≤ 20
  b : nC ≤ 20
  c : nW ≤ 20
  d : nN ≤ 20
  e : ∀ k, k < es.length → (gE es k).2.length ≤ most ∧ (gE es k).1.size ≤ 100
  f : sumL es es.length ≤ most
open Classical in
noncomputable def lightB (es : List Edge) (nC nN nW most : Nat) : Bool := decide (LightOk es nC nN nW most)
theorem lightB_t {es : List Edge} {nC nN nW most : Nat} (h : LightOk es nC nN nW most) : lightB es nC nN nW most = true := by unfold lightB; exact @decide_eq_true _ (Classical.propDecidable _) h
theorem lightB_f {es : List Edge} {nC nN nW most : Nat} (h : ¬ LightOk es nC nN nW most) : lightB es nC nN nW most = false := by unfold lightB; exact @decide_eq_false _ (Classical.propDecidable _) h
theorem lightB_ok {es : List Edge} {nC nN nW most : Nat} (h : lightB es nC nN nW most = true) : LightOk es nC nN nW most := by unfold lightB at h; exact @of_decide_eq_true _ (Classical.propDecidable _) h
set_option maxRecDepth 100000 in
set_option maxHeartbeats 3200000 in
theorem light_ex (nm : ByteArray) (AE AN AC AW : Option Addr) (nE cE nN cN nC cC nW cW : Nat) (gr : Int) (mt : Bool) (es : List Edge) (w : World) (most : Nat) (hm : most ≤ 1000)
    (hE : EdgesAt w AE es) (hlE : es.length = nE) :
    Calls Try.prog 11 #[.agg #[.string nm, .slice AE nE cE, .int .i64 gr, .slice AN nN cN, .slice AC nC cC, .slice AW nW cW, .bool mt], .int .i64 (most : Int)] w fun e w' => e = .returned (.bool (lightB es nC nN nW most)) ∧ Ext w w' := by
  have HLE := Lib.hid hlE; clear hlE
  have HE := Lib.hid hE; clear hE
  by_cases h1 : 20 < nE
  · go_enter Try.func11, Try.ntmps11
    go_wp2_with fail
    go_ret
    exact ⟨ret_bool (lightB_f (fun h => by have := h.a; have := h.b; have := h.c; have := h.d; have := HLE.out; omega)).symm, (Ext.refl _).alloc _⟩
  by_cases h2 : 20 < nC
  · go_enter Try.func11, Try.ntmps11
    go_wp2_with fail
    go_ret
    exact ⟨ret_bool (lightB_f (fun h => by have := h.a; have := h.b; have := h.c; have := h.d; have := HLE.out; omega)).symm, (Ext.refl _).alloc _⟩
  by_cases h3 : 20 < nW
  · go_enter Try.func11, Try.ntmps11
    go_wp2_with fail
    go_ret
    exact ⟨ret_bool (lightB_f (fun h => by have := h.a; have := h.b; have := h.c; have := h.d; have := HLE.out; omega)).symm, (Ext.refl _).alloc _⟩
  by_cases h4 : 20 < nN
  · go_enter Try.func11, Try.ntmps11
    go_wp2_with fail
    go_ret
    exact ⟨ret_bool (lightB_f (fun h => by have := h.a; have := h.b; have := h.c; have := h.d; have := HLE.out; omega)).symm, (Ext.refl _).alloc _⟩
  go_enter Try.func11, Try.ntmps11
  go_wp2_with fail
  refine wp_at fun W0 hW0 => ?_
  have hx0 : Ext w W0 := by rw [hW0]; exact (Ext.refl _).alloc _
  have b1 : W0.cell? ⟨w.heap.size, 1, none⟩ = some (.slice AE nE cE) := by rw [hW0]; simp [go_sem]
  have HX0 := Lib.hid hx0; clear hW0 hx0
  go_loopw [5, 6] (fun s i wr => ∃ k : Nat, k ≤ nE ∧ i = .int .i64 k ∧ s = .int .i64 (sumL es k) ∧ (∀ j, j < k → (gE es j).2.length ≤ most ∧ (gE es j).1.size ≤ 100) ∧ wr = W0) (fun _ i _ => nE - (intOf i).toNat)
  case atStart => exact ⟨0, Nat.zero_le _, rfl, rfl, fun j hj => absurd hj (Nat.not_lt_zero _), rfl⟩
  case round =>
    obtain ⟨k, hk, rfl, rfl, hall, rfl⟩ := hrel
    have hsum := light_all (es := es) (n := k) (most := most) (fun j hj => (hall j hj).1) (by omega)
    have hsum' : sumL es k ≤ 20000 := Nat.le_trans hsum (by have := Nat.mul_le_mul (show k ≤ 20 by omega) hm; omega)
    have HALL := Lib.hid hall; clear hall hsum
    obtain ⟨S, hS⟩ : ∃ S, S = sumL es k := ⟨_, rfl⟩
    rw [← hS] at hsum' ⊢
    have HSS := Lib.hid hS; clear hS
    by_cases hlt : k < nE
    · have hkl : k < es.length := by rw [HLE.out]; exact hlt
      obtain ⟨b, off, L, cL, rfl, hc0, hc1, hS, hcL, hcL'⟩ := (HE.out.ext HX0.out).g hkl
      obtain ⟨sz, hsz⟩ : ∃ sz, sz = (gE es k).2.length := ⟨_, rfl⟩
      obtain ⟨nn, hnn⟩ : ∃ nn, nn = (gE es k).1 := ⟨_, rfl⟩
      rw [← hsz] at hc1 hcL
      rw [← hnn] at hc0
      have HSZ := Lib.hid hsz; have HNN := Lib.hid hnn; clear hsz hnn hS
      by_cases g1 : most < sz
      · go_wp2_with fail
        go_ret
        exact ⟨ret_bool (lightB_f (fun h => by have := h.e k hkl; rw [← HSZ.out, ← HNN.out] at this; omega)).symm, HX0.out⟩
      by_cases g2 : 100 < nn.size
      · go_wp2_with fail
        go_ret
        exact ⟨ret_bool (lightB_f (fun h => by have := h.e k hkl; rw [← HSZ.out, ← HNN.out] at this; omega)).symm, HX0.out⟩
      go_wp2_with fail
      go_roundw
      case rel =>
        refine ⟨k + 1, by omega, by go_num, ?_, fun j hj => ?_, trivial⟩
        · simp only [sumL, ← HSS.out, ← HSZ.out]; go_num
        · rcases Nat.lt_succ_iff_lt_or_eq.1 hj with h | h
          · exact HALL.out j h
          · subst h; rw [← HSZ.out, ← HNN.out]; omega
      case measure => simp [intOf]; omega
    · obtain rfl : k = nE := by omega
      by_cases hS1 : S ≤ most
      · go_wp2_with fail
        go_ret
        exact ⟨ret_bool (by rw [lightB_t ⟨by rw [HLE.out]; omega, by omega, by omega, by omega, fun j hj => HALL.out j (by rw [HLE.out] at hj; exact hj), by rw [HLE.out, ← HSS.out]; exact hS1⟩]), HX0.out⟩
      · go_wp2_with fail
        go_ret
        exact ⟨ret_bool (by rw [lightB_f (fun h => by have := h.f; rw [HLE.out, ← HSS.out] at this; omega)]), HX0.out⟩
end Go.Proofs.Ytdmamobkgdpefaa
/- garmentref21.Same on equal pieces -/
namespace Go.Proofs.Ytdmamobkgdpefaa
open Go.RowKit
set_option maxRecDepth 100000 in
set_option maxHeartbeats 3200000 in
theorem same_eq (nm : ByteArray) (gr : Int) (mt : Bool) (AE AN AC AW BE BN BC BW : Option Addr) (nE cE nN cN nC cC nW cW dE dN dC dW : Nat) (es : List Edge) (cs : List Spot) (ws : List Int) (ns : List Spot) (w : World)
    (hE : EdgesAt w AE es) (hE' : EdgesAt w BE es) (hlE : es.length = nE) (hnE : nE ≤ 1000) (hC : SpotsAt w AC cs) (hC' : SpotsAt w BC cs) (hlC : cs.length = nC) (hnC : nC ≤ 1000)
    (hW : IntsAt w AW ws) (hW' : IntsAt w BW ws) (hlW : ws.length = nW) (hnW : nW ≤ 1000) (hN : SpotsAt w AN ns) (hN' : SpotsAt w BN ns) (hlN : ns.length = nN) (hnN : nN ≤ 1000) :
    Calls Try.prog 12 #[.agg #[.string nm, .slice AE nE cE, .int .i64 gr, .slice AN nN cN, .slice AC nC cC, .slice AW nW cW, .bool mt], .agg #[.string nm, .slice BE nE dE, .int .i64 gr, .slice BN nN dN, .slice BC nC dC, .slice BW nW dW, .bool mt]] w
      fun e w' => e = .returned (.bool true) ∧ Ext w w' := by
  have HE := Lib.hid hE; have HE' := Lib.hid hE'; have HC := Lib.hid hC; have HC' := Lib.hid hC'; have HW := Lib.hid hW; have HW' := Lib.hid hW'; have HN := Lib.hid hN; have HN' := Lib.hid hN'
  have HLE := Lib.hid hlE; have HLC := Lib.hid hlC; have HLW := Lib.hid hlW; have HLN := Lib.hid hlN
  clear hE hE' hC hC' hW hW' hN hN' hlE hlC hlW hlN
  have hself : (nm.toList == nm.toList) = true := by simp
  go_enter Try.func12, Try.ntmps12
  go_wp2_with fail
  refine wp_at fun W0 hW0 => ?_
  have HP : Hid (Blk 27 W0 w.heap.size [.string nm, .slice AE nE cE, .int .i64 gr, .slice AN nN cN, .slice AC nC cC, .slice AW nW cW, .bool mt]) := by show Blk _ _ _ _; rw [hW0]; exact (Blk.new' rfl).ext ((Ext.refl _).alloc _)
  have HQ : Hid (Blk 27 W0 (w.heap.size + 1) [.string nm, .slice BE nE dE, .int .i64 gr, .slice BN nN dN, .slice BC nC dC, .slice BW nW dW, .bool mt]) := by show Blk _ _ _ _; rw [hW0]; exact Blk.new' (by simp)
  have HX0 : Hid (Ext w W0) := by show Ext _ _; rw [hW0]; exact ((Ext.refl _).alloc _).alloc _
  clear hW0
  go_loopw [5] (fun i wr => ∃ k : Nat, k ≤ nN ∧ i = .int .i64 k ∧ Ext W0 wr) (fun i _ => nN - (intOf i).toNat)
  case atStart => exact ⟨0, Nat.zero_le _, rfl, Ext.refl _⟩
  case round =>
    obtain ⟨k, hk, rfl, hx⟩ := hrel
    have HX := Lib.hid hx; clear hx
    have p3 := (HP.out.ext HX.out).cell 3
    have q3 := (HQ.out.ext HX.out).cell 3
    simp only [List.getElem?_cons_succ, List.getElem?_cons_zero] at p3 q3
    by_cases hlt : k < nN
    · obtain ⟨b, off, rfl, i0, i1⟩ := (HN.out.ext (HX0.out.trans HX.out)).g (k := k) (by rw [HLN.out]; exact hlt)
      obtain ⟨b', off', rfl, j0, j1⟩ := (HN'.out.ext (HX0.out.trans HX.out)).g (k := k) (by rw [HLN.out]; exact hlt)
      have hs := eqS_self (gS ns k).1 (gS ns k).2
      go_wp2_with fail
      go_quiet (fail)
      go_wp2_with fail
      go_roundw
      case rel => exact ⟨k + 1, by omega, by go_num, Ext.drewN HX.out _⟩
      case measure => simp [intOf]; omega
    · obtain ⟨_, p1, _, _, p4, p5, _⟩ := blk7 (HP.out.ext HX.out)
      obtain ⟨_, q1, _, _, q4, q5, _⟩ := blk7 (HQ.out.ext HX.out)
      go_wp2_with fail
      refine (sameEdges_eq AE BE nE cE dE es _ (HE.out.ext (HX0.out.trans HX.out)) (HE'.out.ext (HX0.out.trans HX.out)) HLE.out (by omega)).mono ?_
      rintro e w1 ⟨rfl, he1⟩
      have HX1 := Lib.hid he1
      clear he1 p1 q1 p3 q3 p4 q4 p5 q5
      obtain ⟨_, _, _, _, p4, p5, _⟩ := blk7 ((HP.out.ext HX.out).ext HX1.out)
      obtain ⟨_, _, _, _, q4, q5, _⟩ := blk7 ((HQ.out.ext HX.out).ext HX1.out)
      go_wp2_with fail
      refine (R11Same_len AC BC nC cC dC cs cs _ ((HC.out.ext (HX0.out.trans HX.out)).ext HX1.out) ((HC'.out.ext (HX0.out.trans HX.out)).ext HX1.out) HLC.out HLC.out (by omega)).mono ?_
      rintro e w2 ⟨rfl, he2⟩
      have hdec : decide (cs = cs) = true := decide_eq_true rfl
      rw [hdec]
      have HX2 := Lib.hid (HX1.out.trans he2)
      clear he2 p4 q4 p5 q5 hdec
      obtain ⟨_, _, _, _, _, p5, _⟩ := blk7 ((HP.out.ext HX.out).ext HX2.out)
      obtain ⟨_, _, _, _, _, q5, _⟩ := blk7 ((HQ.out.ext HX.out).ext HX2.out)
      go_wp2_with fail
      refine (sameInts_eq AW BW nW cW dW ws _ ((HW.out.ext (HX0.out.trans HX.out)).ext HX2.out) ((HW'.out.ext (HX0.out.trans HX.out)).ext HX2.out) HLW.out (by omega)).mono ?_
      rintro e w3 ⟨rfl, he3⟩
      go_wp2_with fail
      go_ret
      exact ⟨rfl, ((HX0.out.trans HX.out).trans HX2.out).trans he3⟩
end Go.Proofs.Ytdmamobkgdpefaa
/- GradeTurned returns true -/
namespace Go.Proofs.Ytdmamobkgdpefaa
open Go.RowKit
def RetU (W : World) (nm : ByteArray) (gr : Int) (mt : Bool) (nE nN nC nW : Nat) (E : List Edge) (C : List Spot) (I : List Int) (N : List Spot) (e : Ending) (w' : World) : Prop :=
  ∃ AE cE AN cN AC cC AW cW, e = .returned (.agg #[.string nm, .slice AE nE cE, .int .i64 gr, .slice AN nN cN, .slice AC nC cC, .slice AW nW cW, .bool mt]) ∧ EdgesAt w' AE E ∧ SpotsAt w' AN N ∧ SpotsAt w' AC C ∧ IntsAt w' AW I ∧ Ext W w'
theorem retT_U {w w' : World} {nm : ByteArray} {gr : Int} {mt : Bool} {E : List Edge} {C : List Spot} {I : List Int} {N : List Spot} {e : Ending} {nE nN nC nW : Nat} (h : RetT w nm gr mt E C I N e w') (hE : E.length = nE) (hC : C.length = nC) (hI : I.length = nW) (hN : N.length = nN) : RetU w nm gr mt nE nN nC nW E C I N e w' := by
  obtain ⟨uE, uC, uW, uN, rfl, hE3, hC3, hW3, hN3, hx3⟩ := h
  obtain ⟨BE, dE, rfl, h1, _, _⟩ := hE3.slice' hE
  obtain ⟨BC, dC, rfl, h2, _⟩ := hC3.slice' hC
  obtain ⟨BW, dW, rfl, h3, _⟩ := OwnI.slice' hW3 hI
  obtain ⟨BN, dN, rfl, h4, _⟩ := hN3.slice' hN
  exact ⟨BE, dE, BN, dN, BC, dC, BW, dW, rfl, h1, h4, h2, h3, hx3⟩
set_option maxRecDepth 100000 in
set_option maxHeartbeats 6400000 in
theorem turnedL_any (nm : ByteArray) (AE AN AC AW : Option Addr) (nE cE nN cN nC cC nW cW : Nat) (gr : Int) (f : Bool) (q : Int) (mt : Bool) (es : List Edge) (cs : List Spot) (ws : List Int) (ns : List Spot) (w : World) (hp : PAt w AE AN AC AW nE cE nN cN nC cC nW cW es cs ws ns) :
    Calls Try.prog 3 #[.agg #[.string nm, .slice AE nE cE, .int .i64 gr, .slice AN nN cN, .slice AC nC cC, .slice AW nW cW, .bool mt], TV f q] w fun e w' => e = .returned (.bool true) ∧ Ext w w' := by
  have HP := Lib.hid hp; clear hp
  cases hL : lightB es nC nN nW 200
  · have HL := Lib.hid hL; clear hL
    go_enter Try.func3, Try.ntmps3
    go_wp2_with fail
    refine wp_at fun W0 hW0 => ?_
    have hB : Blk 27 W0 w.heap.size [.string nm, .slice AE nE cE, .int .i64 gr, .slice AN nN cN, .slice AC nC cC, .slice AW nW cW, .bool mt] := by rw [hW0]; exact (Blk.new' rfl).ext ((Ext.refl _).alloc _)
    have hT : Blk 29 W0 (w.heap.size + 1) [.bool f, .int .i64 q] := by rw [hW0]; exact Blk.new' (by simp)
    have hx0 : Ext w W0 := by rw [hW0]; exact ((Ext.refl _).alloc _).alloc _
    have HB := Lib.hid hB; have HT := Lib.hid hT; have HX0 := Lib.hid hx0; clear hB hT hx0 hW0
    obtain ⟨p0, p1, p2, p3, p4, p5, p6⟩ := blk7 HB.out
    have d0 := fun z : After W0 => After.cell p0 z
    have d1 := fun z : After W0 => After.cell p1 z
    have d2 := fun z : After W0 => After.cell p2 z
    have d3 := fun z : After W0 => After.cell p3 z
    have d4 := fun z : After W0 => After.cell p4 z
    have d5 := fun z : After W0 => After.cell p5 z
    have d6 := fun z : After W0 => After.cell p6 z
    have HLF : Hid (∀ W, Ext W0 W → Calls Try.prog 11 #[.agg #[.string nm, .slice AE nE cE, .int .i64 gr, .slice AN nN cN, .slice AC nC cC, .slice AW nW cW, .bool mt], .int .i64 200] W fun e w' => e = .returned (.bool false) ∧ Ext W w') := fun W hW => by
      have h := light_ex nm AE AN AC AW nE cE nN cN nC cC nW cW gr mt es W 200 (by omega) (HP.out.e.ext (HX0.out.trans hW)) HP.out.le
      rw [HL.out] at h
      exact h
    refine region_ext (by kernel_rfl) (by kernel_rfl) ?_
    repeat (go_big_quiet_step (first
      | (go_at_call 11; exact after_call (HLF.out _ (After.ext _)))
      | (go_at_call 15; exact after_call (example_any _))))
    refine wpQuiet_nil ?_
    rintro w2 ⟨⟨_, hx2⟩, rfl⟩
    go_wp2_with fail
    go_ret
    exact ⟨rfl, HX0.out.trans hx2⟩
  · have HOK := Lib.hid (lightB_ok hL)
    have HL := Lib.hid hL; clear hL
    have hnE : nE ≤ 20 := by have := HOK.out.a; have := HP.out.le; omega
    have hnC := HOK.out.b
    have hnW := HOK.out.c
    have hnN := HOK.out.d
    have HLn : Hid (∀ q, q < nE → (gE es q).2.length ≤ 1000) := fun q hq => Nat.le_trans (HOK.out.e q (by rw [HP.out.le]; exact hq)).1 (by decide)
    go_enter Try.func3, Try.ntmps3
    go_wp2_with fail
    refine wp_at fun W0 hW0 => ?_
    have hB : Blk 27 W0 w.heap.size [.string nm, .slice AE nE cE, .int .i64 gr, .slice AN nN cN, .slice AC nC cC, .slice AW nW cW, .bool mt] := by rw [hW0]; exact (Blk.new' rfl).ext ((Ext.refl _).alloc _)
    have hT : Blk 29 W0 (w.heap.size + 1) [.bool f, .int .i64 q] := by rw [hW0]; exact Blk.new' (by simp)
    have hx0 : Ext w W0 := by rw [hW0]; exact ((Ext.refl _).alloc _).alloc _
    have HB := Lib.hid hB; have HT := Lib.hid hT; have HX0 := Lib.hid hx0; clear hB hT hx0 hW0
    have keep : ∀ W1 : World, Ext W0 W1 → (Ext W0 W1 ∧ W1.cell? ⟨w.heap.size, 0, none⟩ = some (.string nm) ∧ W1.cell? ⟨w.heap.size, 1, none⟩ = some (.slice AE nE cE) ∧ W1.cell? ⟨w.heap.size, 2, none⟩ = some (.int .i64 gr) ∧ W1.cell? ⟨w.heap.size, 3, none⟩ = some (.slice AN nN cN) ∧ W1.cell? ⟨w.heap.size, 4, none⟩ = some (.slice AC nC cC) ∧ W1.cell? ⟨w.heap.size, 5, none⟩ = some (.slice AW nW cW) ∧ W1.cell? ⟨w.heap.size, 6, none⟩ = some (.bool mt) ∧ W1.cell? ⟨w.heap.size + 1, 0, none⟩ = some (.bool f) ∧ W1.cell? ⟨w.heap.size + 1, 1, none⟩ = some (.int .i64 q)) := fun W1 hx => by
      obtain ⟨p0, p1, p2, p3, p4, p5, p6⟩ := blk7 (HB.out.ext hx)
      obtain ⟨t0, t1⟩ := blk2 (HT.out.ext hx)
      exact ⟨hx, p0, p1, p2, p3, p4, p5, p6, t0, t1⟩
    have KEEP := Lib.hid keep; clear keep
    have getw : ∀ W : World, (Ext W0 W ∧ W.cell? ⟨w.heap.size, 0, none⟩ = some (.string nm) ∧ W.cell? ⟨w.heap.size, 1, none⟩ = some (.slice AE nE cE) ∧ W.cell? ⟨w.heap.size, 2, none⟩ = some (.int .i64 gr) ∧ W.cell? ⟨w.heap.size, 3, none⟩ = some (.slice AN nN cN) ∧ W.cell? ⟨w.heap.size, 4, none⟩ = some (.slice AC nC cC) ∧ W.cell? ⟨w.heap.size, 5, none⟩ = some (.slice AW nW cW) ∧ W.cell? ⟨w.heap.size, 6, none⟩ = some (.bool mt) ∧ W.cell? ⟨w.heap.size + 1, 0, none⟩ = some (.bool f) ∧ W.cell? ⟨w.heap.size + 1, 1, none⟩ = some (.int .i64 q)) → Ext W0 W := fun W h => h.1
    have GETW := Lib.hid getw; clear getw
    have HT1 : Hid (∀ W, Ext W0 W → Calls Try.prog 13 #[.agg #[.string nm, .slice AE nE cE, .int .i64 gr, .slice AN nN cN, .slice AC nC cC, .slice AW nW cW, .bool mt], TV f q] W (RetU W nm gr mt nE nN nC nW (turnE f q es) (turnC f q nE cs) (turnW f nE ws) (turnNs f es ns))) := fun W hW => by
      have HPW := HP.out.ext (HX0.out.trans hW)
      exact (turned_any nm AE AN AC AW nE cE nN cN nC cC nW cW gr mt f q es cs ws ns W HPW.e HP.out.le (by omega) HLn.out HPW.c HP.out.lc (by omega) HPW.i HP.out.li (by omega) HPW.n HP.out.ln (by omega) HP.out.pi HP.out.pn).mono fun e w' h => retT_U h (by rw [turnE_len]; exact HP.out.le) (by rw [turnC_length]; exact HP.out.lc) (by rw [turnW_length]; exact HP.out.li) (by rw [turnNs_length]; exact HP.out.ln)
    have HT2 : Hid (∀ W, Ext W0 W → Calls Try.prog 14 #[.agg #[.string nm, .slice AE nE cE, .int .i64 gr, .slice AN nN cN, .slice AC nC cC, .slice AW nW cW, .bool mt], TV f q] W (RetU W nm gr mt nE nN nC nW (turnE f q es) (turnC f q nE cs) (turnW f nE ws) (turnNs f es ns))) := fun W hW => by
      have HPW := HP.out.ext (HX0.out.trans hW)
      exact (rturnedP_any nm AE AN AC AW nE cE nN cN nC cC nW cW gr mt f q es cs ws ns W HPW.e HP.out.le (by omega) HLn.out HPW.c HP.out.lc (by omega) HPW.i HP.out.li (by omega) HPW.n HP.out.ln (by omega)).mono fun e w' h => retT_U h (by rw [turnE_len]; exact HP.out.le) (by rw [turnC_length]; exact HP.out.lc) (by rw [turnW_length]; exact HP.out.li) (by rw [turnNs_length]; exact HP.out.ln)
    go_region_held3 (fun W => Ext W0 W ∧ W.cell? ⟨w.heap.size, 0, none⟩ = some (.string nm) ∧ W.cell? ⟨w.heap.size, 1, none⟩ = some (.slice AE nE cE) ∧ W.cell? ⟨w.heap.size, 2, none⟩ = some (.int .i64 gr) ∧ W.cell? ⟨w.heap.size, 3, none⟩ = some (.slice AN nN cN) ∧ W.cell? ⟨w.heap.size, 4, none⟩ = some (.slice AC nC cC) ∧ W.cell? ⟨w.heap.size, 5, none⟩ = some (.slice AW nW cW) ∧ W.cell? ⟨w.heap.size, 6, none⟩ = some (.bool mt) ∧ W.cell? ⟨w.heap.size + 1, 0, none⟩ = some (.bool f) ∧ W.cell? ⟨w.heap.size + 1, 1, none⟩ = some (.int .i64 q))
      (first | (with_reducible assumption) | (with_reducible exact KEEP.out _ (Ext.drew (Ext.refl _))) | (with_reducible exact KEEP.out _ hx5) | (with_reducible exact KEEP.out _ hx4) | (with_reducible exact KEEP.out _ hx3) | (with_reducible exact KEEP.out _ hx2) | (with_reducible exact KEEP.out _ hx1) | fail)
      (first
        | (go_at_call 11; refine (light_ex nm AE AN AC AW nE cE nN cN nC cC nW cW gr mt es _ 200 (by omega) (HP.out.e.ext (HX0.out.trans (GETW.out _ ‹_›))) HP.out.le).mono ?_; rintro e w1 ⟨rfl, he1⟩; have hx1 := (GETW.out _ ‹_›).trans he1; rw [HL.out])
        | (go_at_call 13; refine (HT1.out _ (GETW.out _ ‹_›)).mono ?_; rintro e w2 ⟨T1E, T1e, T1N, T1n, T1C, T1c, T1W, T1w, rfl, hT1E, hT1N, hT1C, hT1W, he2⟩; have hx2 := (GETW.out _ ‹_›).trans he2)
        | (go_at_call 14; refine (HT2.out _ (GETW.out _ ‹_›)).mono ?_; rintro e w3 ⟨T2E, T2e, T2N, T2n, T2C, T2c, T2W, T2w, rfl, hT2E, hT2N, hT2C, hT2W, he3⟩; have hx3 := (GETW.out _ ‹_›).trans he3)
        | (go_at_call 12; refine (same_eq nm gr mt T1E T1N T1C T1W T2E T2N T2C T2W nE T1e nN T1n nC T1c nW T1w T2e T2n T2c T2w (turnE f q es) (turnC f q nE cs) (turnW f nE ws) (turnNs f es ns) _ (hT1E.ext he3) hT2E (by rw [turnE_len]; exact HP.out.le) (by omega) (hT1C.ext he3) hT2C (by rw [turnC_length]; exact HP.out.lc) (by omega) (hT1W.ext he3) hT2W (by rw [turnW_length]; exact HP.out.li) (by omega) (hT1N.ext he3) hT2N (by rw [turnNs_length]; exact HP.out.ln) (by omega)).mono ?_; rintro e w4 ⟨rfl, he4⟩; have hx4 := hx3.trans he4)
        | (go_at_call 15; refine (example_any _).mono ?_; rintro e w5 ⟨rfl, he5⟩; have hx5 := hx4.trans he5)
        | fail)
    go_wp2_with fail
    go_ret
    exact ⟨rfl, HX0.out.trans hx5⟩
end Go.Proofs.Ytdmamobkgdpefaa
namespace Go.Proofs.Ytdmamobkgdpefaa
open Go.ChangeShapes Go.WideShapes Go.ChangeAt Go.RowKit Go.Deep Go.Joins
set_option maxRecDepth 100000 in
theorem gradeTurned_lifted (os : Os) (started : os.Started) (H : Type) (enc : TypeId × Value → H) :
    ReturnsInHanded {} Try.checked os 3 .any (Rows.gradeTurnedSpec.pre6 enc Try.prog Try.f3 Rows.gradeTurnedRow.domain false) (Rows.gradeTurnedSpec.post enc Try.prog Try.f3 false true false false) := by
  refine returnsInHanded_of_change (C := Try.checked) Try.own started (by kernel_rfl) Try.func3
    (ChangeSpec.witness6 (enc := enc) (C := Try.checked) false ⟨#[], #[.agg #[.string ⟨#[]⟩, .slice none 0 0, .int .i64 0, .slice none 0 0, .slice none 0 0, .slice none 0 0, .bool false], .agg #[.bool false, .int .i64 0]], []⟩ 8 (by kernel_rfl) (by kernel_rfl) (by kernel_rfl) (by kernel_rfl)) ?_
  intro W base args ds gs before hval0 hW hcnd _
  have hval : ∀ (j : Nat) t v, Try.f3.params[j]? = some t → args[j]? = some v → Value.okWide Try.prog W .any base t v := hval0
  have hW' := hW
  obtain ⟨p, q, hA0, hV, rfl, hfz, hnd⟩ := hW
  have hA : DataW.TrodAll enc Try.prog W 0 (fun _ => true) true Try.f3.params.toList args.toList ds p := hA0
  rw [Try.params3] at hA hval
  obtain ⟨v0, vs0, d0, ds0, p0, q0, hargs, rfl, rfl, h0, r0⟩ := trodAll_cons hA
  obtain ⟨v1, vs1, d1, ds1, p1, q1, rfl, rfl, rfl, h1, r1⟩ := trodAll_cons r0
  obtain ⟨rfl, rfl, rfl⟩ := trodAll_nil r1
  obtain rfl : args = #[v0, v1] := by cases args; simp_all
  obtain ⟨rfl, rfl⟩ := trodVars_none hV
  have k0 := h0
  have lt0 : ∀ x ∈ p0, x.block < W.heap.size := by obtain ⟨m, hm⟩ := k0; exact DataW.trod_lt m _ _ _ hm
  obtain ⟨nm0, AE0, nE0, cE0, gr0, AN0, nN0, cN0, AC0, nC0, cC0, AW0, nW0, cW0, mt0, es0, cs0, ws0, ns0, hv0, hp0⟩ := piece_open (hval 0 27 v0 rfl rfl) h0
  subst hv0
  have k1 := h1
  have lt1 : ∀ x ∈ p1, x.block < W.heap.size := by obtain ⟨m, hm⟩ := k1; exact DataW.trod_lt m _ _ _ hm
  obtain ⟨f1, a1, hv1⟩ := turn_open (hval 1 29 v1 rfl rfl) h1
  subst hv1
  clear hA0 hval0
  refine (turnedL_any nm0 AE0 AN0 AC0 AW0 nE0 cE0 nN0 cN0 nC0 cC0 nW0 cW0 gr0 f1 a1 mt0 es0 cs0 ws0 ns0 W hp0).mono fun e W' ⟨he, bel⟩ => ?_
  subst he
  exact ⟨_, rfl, _, _, _, [], _, [], hW', trodAll_mk1 (shut_bool Try.underlying4 _), (trodAll_cons_mk (Below.trod Try.laidOut (by kernel_rfl) (of_decide_eq_true (by kernel_rfl)) k0 bel lt0) (trodAll_cons_mk (Below.trod Try.laidOut (by kernel_rfl) (of_decide_eq_true (by kernel_rfl)) k1 bel lt1) trodAll_mk0)), rfl, Below.frame bel _, fun h => by cases h⟩
theorem gradeTurned_holds : Rows.GradeTurnedSaid :=
  OpenClaim.holds_of_wide 3 Try.f3 rfl rfl rfl rfl rfl rfl rfl ⟨rfl, rfl, rfl, rfl, rfl⟩ rfl rfl rfl rfl rfl (by kernel_rfl) Try.func3 (by kernel_rfl)
    (of_decide_eq_true (by kernel_rfl)) (by unfold Func.isWrapper; first | (rw [if_pos (by decide +kernel)]; kernel_rfl) | (rw [if_neg (by decide +kernel)]; exact ⟨rfl, rfl⟩))
    (fun os started H enc _ => gradeTurned_lifted os started H enc)
end Go.Proofs.Ytdmamobkgdpefaa

