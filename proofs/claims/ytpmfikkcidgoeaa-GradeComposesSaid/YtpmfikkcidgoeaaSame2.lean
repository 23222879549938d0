/- garmentref21.Same on equal pieces -/
import Derived.Test.YtpmfikkcidgoeaaComp
namespace Go.Proofs.Ytpmfikkcidgoeaa
open Go.RowKit
set_option maxRecDepth 100000 in
set_option maxHeartbeats 3200000 in
theorem same_eq (nm : ByteArray) (gr : Int) (mt : Bool) (AE AN AC AW BE BN BC BW : Option Addr) (nE cE nN cN nC cC nW cW dE dN dC dW : Nat) (es : List Edge) (cs : List Spot) (ws : List Int) (ns : List Spot) (w : World)
    (hE : EdgesAt w AE es) (hE' : EdgesAt w BE es) (hlE : es.length = nE) (hnE : nE ≤ 1000) (hC : SpotsAt w AC cs) (hC' : SpotsAt w BC cs) (hlC : cs.length = nC) (hnC : nC ≤ 1000)
    (hW : IntsAt w AW ws) (hW' : IntsAt w BW ws) (hlW : ws.length = nW) (hnW : nW ≤ 1000) (hN : SpotsAt w AN ns) (hN' : SpotsAt w BN ns) (hlN : ns.length = nN) (hnN : nN ≤ 1000) :
    Calls Try.prog 11 #[.agg #[.string nm, .slice AE nE cE, .int .i64 gr, .slice AN nN cN, .slice AC nC cC, .slice AW nW cW, .bool mt], .agg #[.string nm, .slice BE nE dE, .int .i64 gr, .slice BN nN dN, .slice BC nC dC, .slice BW nW dW, .bool mt]] w
      fun e w' => e = .returned (.bool true) ∧ Ext w w' := by
  have HE := Lib.hid hE; have HE' := Lib.hid hE'; have HC := Lib.hid hC; have HC' := Lib.hid hC'; have HW := Lib.hid hW; have HW' := Lib.hid hW'; have HN := Lib.hid hN; have HN' := Lib.hid hN'
  have HLE := Lib.hid hlE; have HLC := Lib.hid hlC; have HLW := Lib.hid hlW; have HLN := Lib.hid hlN
  clear hE hE' hC hC' hW hW' hN hN' hlE hlC hlW hlN
  have hself : (nm.toList == nm.toList) = true := by simp
  go_enter Try.func11, Try.ntmps11
  go_wp2_with fail
  refine wp_at fun W0 hW0 => ?_
  have HP : Hid (Blk 27 W0 w.heap.size [.string nm, .slice AE nE cE, .int .i64 gr, .slice AN nN cN, .slice AC nC cC, .slice AW nW cW, .bool mt]) := by show Blk _ _ _ _; rw [hW0]; exact (Blk.new' rfl).ext ((Ext.refl _).alloc _)
  have HQ : Hid (Blk 27 W0 (w.heap.size + 1) [.string nm, .slice BE nE dE, .int .i64 gr, .slice BN nN dN, .slice BC nC dC, .slice BW nW dW, .bool mt]) := by show Blk _ _ _ _; rw [hW0]; exact Blk.new' (by simp)
  have HX0 : Hid (Ext w W0) := by show Ext _ _; rw [hW0]; exact ((Ext.refl _).alloc _).alloc _
  clear hW0
  go_loopw [5] (fun i wr => ∃ k : Nat, k ≤ nN ∧ i = .int .i64 k ∧ Ext W0 wr) (fun i _ => nN - (intOf i).toNat)
  case atStart => exact ⟨0, Nat.zero_le _, rfl, Ext.refl _⟩
  case round =>
    obtain ⟨k, hk, rfl, hx⟩ := hrel
    have HX := Lib.hid hx; clear hx
    have p3 := (HP.out.ext HX.out).cell 3
    have q3 := (HQ.out.ext HX.out).cell 3
    simp only [List.getElem?_cons_succ, List.getElem?_cons_zero] at p3 q3
    by_cases hlt : k < nN
    · obtain ⟨b, off, rfl, i0, i1⟩ := (HN.out.ext (HX0.out.trans HX.out)).g (k := k) (by rw [HLN.out]; exact hlt)
      obtain ⟨b', off', rfl, j0, j1⟩ := (HN'.out.ext (HX0.out.trans HX.out)).g (k := k) (by rw [HLN.out]; exact hlt)
      have hs := eqS_self (gS ns k).1 (gS ns k).2
      go_wp2_with fail
      go_quiet (fail)
      go_wp2_with fail
      go_roundw
      case rel => exact ⟨k + 1, by omega, by go_num, Ext.drewN HX.out _⟩
      case measure => simp [intOf]; omega
    · obtain ⟨_, p1, _, _, p4, p5, _⟩ := blk7 (HP.out.ext HX.out)
      obtain ⟨_, q1, _, _, q4, q5, _⟩ := blk7 (HQ.out.ext HX.out)
      go_wp2_with fail
      refine (sameEdges_eq AE BE nE cE dE es _ (HE.out.ext (HX0.out.trans HX.out)) (HE'.out.ext (HX0.out.trans HX.out)) HLE.out (by omega)).mono ?_
      rintro e w1 ⟨rfl, he1⟩
      have HX1 := Lib.hid he1
      clear he1 p1 q1 p3 q3 p4 q4 p5 q5
      obtain ⟨_, _, _, _, p4, p5, _⟩ := blk7 ((HP.out.ext HX.out).ext HX1.out)
      obtain ⟨_, _, _, _, q4, q5, _⟩ := blk7 ((HQ.out.ext HX.out).ext HX1.out)
      go_wp2_with fail
      refine (R11Same_len AC BC nC cC dC cs cs _ ((HC.out.ext (HX0.out.trans HX.out)).ext HX1.out) ((HC'.out.ext (HX0.out.trans HX.out)).ext HX1.out) HLC.out HLC.out (by omega)).mono ?_
      rintro e w2 ⟨rfl, he2⟩
      have hdec : decide (cs = cs) = true := decide_eq_true rfl
      rw [hdec]
      have HX2 := Lib.hid (HX1.out.trans he2)
      clear he2 p4 q4 p5 q5 hdec
      obtain ⟨_, _, _, _, _, p5, _⟩ := blk7 ((HP.out.ext HX.out).ext HX2.out)
      obtain ⟨_, _, _, _, _, q5, _⟩ := blk7 ((HQ.out.ext HX.out).ext HX2.out)
      go_wp2_with fail
      refine (sameInts_eq AW BW nW cW dW ws _ ((HW.out.ext (HX0.out.trans HX.out)).ext HX2.out) ((HW'.out.ext (HX0.out.trans HX.out)).ext HX2.out) HLW.out (by omega)).mono ?_
      rintro e w3 ⟨rfl, he3⟩
      go_wp2_with fail
      go_ret
      exact ⟨rfl, ((HX0.out.trans HX.out).trans HX2.out).trans he3⟩
end Go.Proofs.Ytpmfikkcidgoeaa
