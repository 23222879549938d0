/- grade.mirrored, mirror -/
import Derived.Test.YtdmamobkgdpefaaGreatKSeg
import Derived.Test.YtdmamobkgdpefaaGreatKWd
import Derived.Test.YtdmamobkgdpefaaGreatKTail
namespace Go.Proofs.YtdmamobkgdpefaaGreat
open Go.RowKit
def mirAt (L a : Int) : Int := if 0 ≤ a ∧ a ≤ L then L - a else 0
def mirN (es : List Edge) (k : Nat) (a : Int) : Spot := (((es.length - k) % es.length : Nat), mirAt (lengthN (gE es k).2) a)
theorem lengthN_le (l : List Spot) : lengthN l ≤ 1000000000000 := by
  unfold lengthN
  split
  · omega
  · rename_i h
    obtain ⟨h2, h40, hin⟩ := lcheck_zero (l := l) (by omega)
    have := lenTo_le hin (l.length - 1) (by omega)
    have : (l.length - 1) * 4294967296 ≤ 39 * 4294967296 := Nat.mul_le_mul (by omega) (by omega)
    omega
theorem sub_mod_facts (n k : Nat) (hk : k < n) : -(k : Int) % n = (((n - k) % n : Nat) : Int) ∧ ((n : Int) - k) % n = (((n - k) % n : Nat) : Int) := by
  have h : ((n : Int) - k) % n = (((n - k) % n : Nat) : Int) := by rw [Int.natCast_emod, Int.ofNat_sub (by omega)]
  refine ⟨?_, h⟩
  rw [← h, show (n : Int) - k = -k + n from by omega]; simp
set_option maxRecDepth 100000 in
set_option maxHeartbeats 1000000 in
theorem mirrored_any (A : Option Addr) (n c k : Nat) (a : Int) (l : List Edge) (w : World) (ha : EdgesAt w A l) (hl : l.length = n) (hk : k < n) (hn : n ≤ 1000) :
    Calls Tryz.prog 70 #[.agg #[.int .i64 k, .int .i64 a], .slice A n c] w fun e w' => e = .returned (SV (mirN l k a)) ∧ Ext w w' := by
  obtain ⟨b, off, B, cap, rfl, hn0, hc0, hS, hcap, hcap'⟩ := ha.g (k := k) (by omega)
  have hLN := lengthN_le (gE l k).2
  obtain ⟨hm1, hm2⟩ := sub_mod_facts n k hk
  have hm3 : (n - k) % n < n := Nat.mod_lt _ (by omega)
  have HS := Lib.hid hS; clear hS
  have hnz : ((n : Int) == 0) = false := by simp; omega
  obtain ⟨ln, hln⟩ : ∃ ln, ln = (gE l k).2 := ⟨_, rfl⟩
  rw [← hln] at hc0 HS hLN hcap
  have HR : Hid (mirN l k a = ((((n - k) % n : Nat) : Int), mirAt (lengthN ln) a)) := by show mirN l k a = _; rw [mirN, hl, hln]
  clear ha hln hn0 hl
  have hbl : b < w.heap.size := cell_lt hc0
  obtain ⟨LN, hLN'⟩ : ∃ LN, LN = lengthN ln := ⟨_, rfl⟩
  have HLE := Lib.hid hLN'
  rw [← hLN'] at HR hLN
  have HLN := Lib.hid hLN'; clear hLN'
  go_enter Tryz.func70, Tryz.ntmps70
  go_wp2_with fail
  refine (length_any B ln.length cap ln _ ((HS.out.ext ((Ext.refl _).alloc _)).ext ((Ext.refl _).alloc _)) rfl).mono ?_
  rintro e w1 ⟨rfl, he1⟩
  have hx1 : Ext w w1 := (((Ext.refl w).alloc _).alloc _).trans he1
  have c0 : w1.cell? ⟨w.heap.size, 0, none⟩ = some (.int .i64 k) := he1.cell (by simp [go_sem])
  have c1 : w1.cell? ⟨w.heap.size, 1, none⟩ = some (.int .i64 a) := he1.cell (by simp [go_sem])
  have d0 : w1.cell? ⟨w.heap.size + 1, 0, none⟩ = some (.int .i64 0) := he1.cell (by simp [go_sem])
  have d1 : w1.cell? ⟨w.heap.size + 1, 1, none⟩ = some (.int .i64 0) := he1.cell (by simp [go_sem])
  have f0 : w1.frozen? ⟨w.heap.size + 1, 0, none⟩ = false := he1.frz (v := .int .i64 0) (by simp [go_sem]) (by simp [go_sem])
  have f1 : w1.frozen? ⟨w.heap.size + 1, 1, none⟩ = false := he1.frz (v := .int .i64 0) (by simp [go_sem]) (by simp [go_sem])
  have hw1 : w.heap.size < w1.heap.size := cell_lt c0
  have hw2 : w.heap.size + 1 < w1.heap.size := cell_lt d0
  have HX := Lib.hid hx1
  clear he1 hx1 hc0
  rw [← HLE.out]
  have hsplit : lcheck ln = 0 ∨ lcheck ln ≠ 0 ∧ LN = 0 := by
    rcases Classical.em (lcheck ln = 0) with h | h
    · exact .inl h
    · exact .inr ⟨h, by rw [HLE.out]; unfold lengthN; rw [if_pos h]⟩
  obtain ⟨cz, hcz⟩ : ∃ cz, cz = lcheck ln := ⟨_, rfl⟩
  rw [← hcz] at hsplit ⊢
  clear hcz
  by_cases hp : 0 ≤ a
  · by_cases hq : a ≤ LN
    · have hv : mirAt LN a = LN - a := by unfold mirAt; rw [if_pos ⟨hp, hq⟩]
      have HV := Lib.hid hv; clear hv
      rcases hsplit with rfl | ⟨hne, rfl⟩
      · go_wp2_with fail
        refine bodyPost_ret (v := SV (mirN l k a)) (by rw [HR.out, HV.out]; simp [results, Tryz.results70, go_sem, d0, d1]) rfl ⟨rfl, ?_⟩
        exact (HX.out.setCell (by simp) _).setCell (by simp) _
      · have hd : (cz == 0) = false := by simp [hne]
        obtain rfl : a = 0 := by omega
        go_wp2_with fail
        refine bodyPost_ret (v := SV (mirN l k 0)) (by rw [HR.out, HV.out]; simp [results, Tryz.results70, go_sem, d0, d1]) rfl ⟨rfl, ?_⟩
        exact (HX.out.setCell (by simp) _).setCell (by simp) _
    · have hv : mirAt LN a = 0 := by unfold mirAt; rw [if_neg (by omega)]
      have HV := Lib.hid hv; clear hv
      rcases hsplit with rfl | ⟨hne, rfl⟩
      · go_wp2_with fail
        refine bodyPost_ret (v := SV (mirN l k a)) (by rw [HR.out, HV.out]; simp [results, Tryz.results70, go_sem, d0, d1]) rfl ⟨rfl, ?_⟩
        exact (HX.out.setCell (by simp) _).setCell (by simp) _
      · have hd : (cz == 0) = false := by simp [hne]
        have hq' : ¬ a ≤ 0 := by omega
        go_wp2_with fail
        refine bodyPost_ret (v := SV (mirN l k a)) (by rw [HR.out, HV.out]; simp [results, Tryz.results70, go_sem, d0, d1]) rfl ⟨rfl, ?_⟩
        exact (HX.out.setCell (by simp) _).setCell (by simp) _
  · have hv : mirAt LN a = 0 := by unfold mirAt; rw [if_neg (by omega)]
    have HV := Lib.hid hv; clear hv
    rcases hsplit with rfl | ⟨hne, rfl⟩
    · go_wp2_with fail
      refine bodyPost_ret (v := SV (mirN l k a)) (by rw [HR.out, HV.out]; simp [results, Tryz.results70, go_sem, d0, d1]) rfl ⟨rfl, ?_⟩
      exact (HX.out.setCell (by simp) _).setCell (by simp) _
    · have hd : (cz == 0) = false := by simp [hne]
      go_wp2_with fail
      refine bodyPost_ret (v := SV (mirN l k a)) (by rw [HR.out, HV.out]; simp [results, Tryz.results70, go_sem, d0, d1]) rfl ⟨rfl, ?_⟩
      exact (HX.out.setCell (by simp) _).setCell (by simp) _
end Go.Proofs.YtdmamobkgdpefaaGreat
