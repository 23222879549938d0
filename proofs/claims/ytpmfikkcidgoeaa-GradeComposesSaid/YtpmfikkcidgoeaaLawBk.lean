/- GradeBack returns true -/
import Derived.Test.YtpmfikkcidgoeaaExam
import Derived.Test.YtpmfikkcidgoeaaPlainA
namespace Go.Proofs.Ytpmfikkcidgoeaa
open Go.RowKit
/- a piece as it came in -/
structure PAt (w : World) (AE AN AC AW : Option Addr) (nE cE nN cN nC cC nW cW : Nat) (es : List Edge) (cs : List Spot) (ws : List Int) (ns : List Spot) : Prop where
  e : EdgesAt w AE es
  le : es.length = nE
  ce : nE ≤ cE
  ce' : cE ≤ 9223372036854775807
  c : SpotsAt w AC cs
  lc : cs.length = nC
  nc : nC ≤ 9223372036854775807
  i : IntsAt w AW ws
  li : ws.length = nW
  n : SpotsAt w AN ns
  ln : ns.length = nN
  pi : plainA AW
  pn : plainA AN
theorem PAt.ext {w w' : World} {AE AN AC AW : Option Addr} {nE cE nN cN nC cC nW cW : Nat} {es : List Edge} {cs : List Spot} {ws : List Int} {ns : List Spot} (h : PAt w AE AN AC AW nE cE nN cN nC cC nW cW es cs ws ns) (he : Ext w w') : PAt w' AE AN AC AW nE cE nN cN nC cC nW cW es cs ws ns :=
  ⟨h.e.ext he, h.le, h.ce, h.ce', h.c.ext he, h.lc, h.nc, h.i.ext he, h.li, h.n.ext he, h.ln, h.pi, h.pn⟩
set_option maxRecDepth 100000 in
set_option maxHeartbeats 3200000 in
theorem back_any (nm : ByteArray) (AE AN AC AW : Option Addr) (nE cE nN cN nC cC nW cW : Nat) (gr m : Int) (mt : Bool) (es : List Edge) (cs : List Spot) (ws : List Int) (ns : List Spot) (w : World) (hp : PAt w AE AN AC AW nE cE nN cN nC cC nW cW es cs ws ns) :
    Calls Try.prog 6 #[.agg #[.string nm, .slice AE nE cE, .int .i64 gr, .slice AN nN cN, .slice AC nC cC, .slice AW nW cW, .bool mt], .int .i64 m] w fun e w' => e = .returned (.bool true) ∧ Ext w w' := by
  have HP := Lib.hid hp; clear hp
  go_enter Try.func6, Try.ntmps6
  go_wp2_with fail
  refine (light_any nm AE AN AC AW nE cE nN cN nC cC nW cW gr mt es _ 40 (by omega) (HP.out.e.ext ((Ext.refl _).alloc _)) HP.out.le).mono ?_
  rintro e w1 ⟨b, rfl, he1, hb⟩
  have HB1 : Hid (Blk 27 w1 w.heap.size [.string nm, .slice AE nE cE, .int .i64 gr, .slice AN nN cN, .slice AC nC cC, .slice AW nW cW, .bool mt]) := (Blk.new' rfl).ext he1
  have HX1 := Lib.hid (((Ext.refl w).alloc _).trans he1)
  clear he1
  cases b
  · clear hb
    go_wp2_with fail
    refine (example_any _).mono ?_
    rintro e w2 ⟨rfl, he2⟩
    go_wp2_with fail
    go_ret
    exact ⟨rfl, HX1.out.trans he2⟩
  obtain ⟨hl1, hl2, hl3, hl4, hl5⟩ := hb rfl
  rw [HP.out.le] at hl1
  have HL5 := Lib.hid hl5; clear hb hl5
  have p1 := HB1.out.cell 1
  simp only [List.getElem?_cons_succ, List.getElem?_cons_zero] at p1
  go_wp2_with fail
  clear p1
  go_loopw [19] (fun i wr => ∃ k : Nat, k ≤ nE ∧ i = .int .i64 k ∧ (∀ j, j < k → (gE es j).2.length = 2) ∧ Ext w1 wr) (fun i _ => nE - (intOf i).toNat)
  case atStart => exact ⟨0, Nat.zero_le _, rfl, fun j hj => absurd hj (Nat.not_lt_zero _), Ext.refl _⟩
  case round =>
    obtain ⟨k, hk, rfl, hall, hx⟩ := hrel
    have HALL := Lib.hid hall; have HX := Lib.hid hx; clear hall hx
    by_cases hlt : k < nE
    · have hkl : k < es.length := by rw [HP.out.le]; exact hlt
      obtain ⟨b, off, L, cL, rfl, hc0, hc1, hS, hcL, hcL'⟩ := (HP.out.e.ext (HX1.out.trans HX.out)).g hkl
      obtain ⟨sz, hsz⟩ : ∃ sz, sz = (gE es k).2.length := ⟨_, rfl⟩
      rw [← hsz] at hc1
      have HSZ := Lib.hid hsz; clear hsz hS hcL hcL'
      by_cases h2 : sz = 2
      · subst h2
        go_wp2_with fail
        go_roundw
        case rel =>
          refine ⟨k + 1, by omega, by go_num, fun j hj => ?_, HX.out.alloc _⟩
          rcases Nat.lt_succ_iff_lt_or_eq.1 hj with h | h
          · exact HALL.out j h
          · subst h; exact HSZ.out.symm
        case measure => simp [intOf]; omega
      · have hb2 : ((sz : Int) != 2) = true := by simp; omega
        go_wp2_with fail
        refine (example_any _).mono ?_
        rintro e w2 ⟨rfl, he2⟩
        go_wp2_with fail
        go_ret
        exact ⟨rfl, ((HX1.out.trans HX.out).alloc _).trans he2⟩
    · obtain rfl : k = nE := by omega
      have HBr := Lib.hid (HB1.out.ext HX.out)
      obtain ⟨p0, p1, p2, p3, p4, p5, p6⟩ := blk7 HBr.out
      have HXr := Lib.hid (HX1.out.trans HX.out)
      have HPr := Lib.hid (HP.out.ext HXr.out)
      go_wp2_with fail
      refine (graded_any nm AE AN AC AW k cE nN cN nC cC nW cW gr m mt es cs _ HPr.out.e HPr.out.le HPr.out.ce HPr.out.ce' HPr.out.c HPr.out.lc HPr.out.nc).mono ?_
      rintro e w2 ⟨v2, rfl, hv2, hv2', he2⟩
      have HX2 := Lib.hid (HXr.out.trans he2)
      have HB2 := Lib.hid (HBr.out.ext he2)
      clear p0 p1 p2 p3 p4 p5 p6
      by_cases hz : gradedR es cs m = 0
      rotate_left
      · have hzb : (gradedR es cs m != 0) = true := by simp [hz]
        clear hv2 hv2' hz he2
        go_wp2_with fail
        refine (example_any _).mono ?_
        rintro e w3 ⟨rfl, he3⟩
        go_wp2_with fail
        go_ret
        exact ⟨rfl, HX2.out.trans he3⟩
      have hok := (gradedR_iff es cs m).1 hz
      have hv := hv2 hz
      rw [hz]
      clear hv2 hv2' hz he2
      have HOK := Lib.hid hok
      have h2 : ∀ i, i < es.length → (gE es i).2.length = 2 := fun i hi => HALL.out i (by rw [HP.out.le] at hi; exact hi)
      have HB := Lib.hid (graded_back hok h2); have HBO := Lib.hid (graded_back_ok hok h2)
      have hm0 := hok.m0; have hm1 := hok.m1
      clear hok h2
      obtain ⟨A2, c2, hvv, hE2, hc2, hc2'⟩ := hv.slice' (n := k) (by rw [gradedE_len, HP.out.le])
      subst hvv
      have HE2 := Lib.hid hE2; clear hE2 hv
      obtain ⟨p0, p1, p2, p3, p4, p5, p6⟩ := blk7 HB2.out
      have hlw : w.heap.size < w2.heap.size := HB2.out.lt
      go_wp2_with fail
      have HP2 := Lib.hid (HP.out.ext HX2.out)
      refine (graded_any nm A2 AN AC AW k c2 nN cN nC cC nW cW gr _ mt (gradedE es cs m) cs _ (HE2.out.ext ((Ext.refl _).alloc _)) (by rw [gradedE_len, HP.out.le]) hc2 hc2' (HP2.out.c.ext ((Ext.refl _).alloc _)) HP2.out.lc HP2.out.nc).mono ?_
      rintro e w3 ⟨v3, rfl, hv3, _, he3⟩
      have hv3 := hv3 HBO.out
      rw [HB.out] at hv3
      rw [HBO.out]
      have hX23 : Ext w2 w3 := ((Ext.refl _).alloc _).trans he3
      have HX3 := Lib.hid hX23
      obtain ⟨A3, c3, hvv, hE3, _, _⟩ := hv3.slice' (n := k) HP.out.le
      subst hvv
      have HE3 := Lib.hid hE3
      clear hE3 hv3 he3 hX23 p0 p1 p2 p3 p4 p5 p6
      have p1 := (HB2.out.ext HX3.out).cell 1
      simp only [List.getElem?_cons_succ, List.getElem?_cons_zero] at p1
      go_wp2_with fail
      refine (sameEdges_eq A3 AE k c3 cE es _ HE3.out (HP2.out.e.ext HX3.out) HP.out.le (by omega)).mono ?_
      rintro e w4 ⟨rfl, he4⟩
      go_wp2_with fail
      refine (example_any _).mono ?_
      rintro e w5 ⟨rfl, he5⟩
      go_wp2_with fail
      go_ret
      exact ⟨rfl, ((HX2.out.trans HX3.out).trans he4).trans he5⟩
end Go.Proofs.Ytpmfikkcidgoeaa
